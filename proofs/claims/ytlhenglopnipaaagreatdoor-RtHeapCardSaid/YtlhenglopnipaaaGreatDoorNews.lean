/- cpu.right. -/
import Derived.Test.YtlhenglopnipaaaGreatDoorRuns
import Derived.Test.YtlhenglopnipaaaGreatDoorCpu
import Derived.Test.YtlhenglopnipaaaGreatDoorBufs
import Derived.Laws.Tables
import Derived.RegionTactic
import Derived.Laws.CopyOwn
namespace Go.Pat
open Go Go.RowKit
/-- is a state right. -/
def rightG (r : Nat) (st co inn fa : Int) (n : Nat) : Bool := ((r : Int) == 0) && (decide (0 ≤ st) && (decide (0 ≤ co) && (decide (co ≤ 255) && (decide (0 ≤ inn) && (decide (inn ≤ (n : Int)) && ((fa == 0) || (decide (30 ≤ fa) && decide (fa ≤ 34))))))))
def rightB (c : Mc) (n : Nat) : Bool := rightG (c.reg 0) c.steps c.code c.inn c.fault n
section
variable {c : Mc} {ov : Value}
theorem cget_pc : (c.cells ov)[0]? = some (.int .u64 (c.pc : Int)) := rfl
theorem cget_reg (h : c.regs.length = 32) (i : Nat) (hi : i < 32) : (c.cells ov)[1 + i]? = some (.int .u64 ((c.reg i : Nat) : Int)) := by
  have h1 := mget_reg (ov := ov) (pv := .int .i64 0) (iv := .int .i64 0) h i hi
  rw [mcells_app, List.getElem?_append_left (by rw [ccells_len h]; omega)] at h1
  exact h1
theorem cget_tail (h : c.regs.length = 32) (i : Nat) (hi : i < 6) : (c.cells ov)[33 + i]? = (c.tail ov)[i]? := by
  have h1 := mget_tail (ov := ov) (pv := .int .i64 0) (iv := .int .i64 0) h i
  rw [mcells_app, List.getElem?_append_left (by rw [ccells_len h]; omega), List.getElem?_append_left (by simp [Mc.tail]; omega)] at h1
  exact h1
theorem cset_out (h : c.regs.length = 32) (v : Value) : (c.cells ov).set 37 v = c.cells v := by
  have h1 := mset_out (ov := ov) (pv := .int .i64 0) (iv := .int .i64 0) h v c.out
  rw [mcells_app, mcells_app, List.set_append_left _ _ (by rw [ccells_len h]; omega)] at h1
  exact List.append_cancel_right h1
theorem cells_one (h : ov.oneCell' = true) : (c.cells ov).all (·.oneCell') = true := by
  have e1 : ∀ (k : IntKind) (n : Int), (Value.int k n).oneCell' = true := fun _ _ => rfl
  have e2 : ∀ b : Bool, (Value.bool b).oneCell' = true := fun _ => rfl
  simp [Mc.cells, Mc.tail, List.all_append, List.all_map, rV, h, e1, e2]
theorem cells_oneA (h : ov.oneCell' = true) : (c.cells ov).toArray.all (·.oneCell') = true := by
  rw [List.all_toArray]
  exact cells_one h
end
end Go.Pat
namespace Go.Proofs
open Go Go.RowKit Go.Pat
theorem step_loadM {P : Program} {ops : Array Oper} {o : Oper} {a : Act} {w : World} {K : Act → World → Prop} {Q : Exit → Act → World → Prop} {E : Prop} (hgd : o.guard = none) (ty : TypeId) (x : Operand) (ho : o.op = .load ty x)
    (b off : Nat) (hx : a.eval x = .pointer (some ⟨b, off, none⟩)) (cs : List Value) (d : TypeDesc) (hc : w.rangeAt b off cs) (hu : P.underlying ty = some d) (hd : d.isRow = true) (hi : (P.info? ty).map (·.size) = some cs.length)
    (h : K (a.put o.dst (.agg cs.toArray)) w) : if Region.wanted o (yielded ops a.tmps) = true then Oper.wp P o a w K Q else E := by
  have hw : Region.wanted o (yielded ops a.tmps) = true := by simp [Region.wanted, hgd]
  rw [if_pos hw]
  exact wp_load_mid ty x ho b off hx cs d hc hu hd hi h
theorem step_buildM {P : Program} {ops : Array Oper} {o : Oper} {a : Act} {w : World} {K : Act → World → Prop} {Q : Exit → Act → World → Prop} {E : Prop} (hgd : o.guard = none) (t : TypeId) (parts : Array (Nat × Operand)) (ho : o.op = .build t parts)
    (cs : Array Value) (hb : P.built t (parts.map fun (i, x) => (i, a.eval x)).toList = some cs)
    (h : K (a.put o.dst (.agg cs)) w) : if Region.wanted o (yielded ops a.tmps) = true then Oper.wp P o a w K Q else E := by
  have hw : Region.wanted o (yielded ops a.tmps) = true := by simp [Region.wanted, hgd]
  rw [if_pos hw]
  refine wp_build t parts ho (by rw [hb]; rfl) ?_
  rw [hb]
  exact h
theorem Tryz_sizeCpu2 : (Tryz.prog.info? 37).map (·.size) = some 39 := by kernel_rfl
theorem built_lit (x0 x1 x2 x3 x4 x5 x6 x7 x8 x9 x10 x11 x12 x13 x14 x15 x16 x17 x18 x19 x20 x21 x22 x23 x24 x25 x26 x27 x28 x29 x30 x31 x32 x33 x34 x35 x36 x37 x38 : Value) (pv A : Option Addr) (n k : Nat) : Tryz.prog.built 118 [(0, .agg #[x0, x1, x2, x3, x4, x5, x6, x7, x8, x9, x10, x11, x12, x13, x14, x15, x16, x17, x18, x19, x20, x21, x22, x23, x24, x25, x26, x27, x28, x29, x30, x31, x32, x33, x34, x35, x36, x37, x38]), (1, .pointer pv), (2, .slice A n k)] = some #[x0, x1, x2, x3, x4, x5, x6, x7, x8, x9, x10, x11, x12, x13, x14, x15, x16, x17, x18, x19, x20, x21, x22, x23, x24, x25, x26, x27, x28, x29, x30, x31, x32, x33, x34, x35, x36, x37, x38, .pointer pv, .slice A n k] := by kernel_rfl
theorem built_mach (cs : List Value) (h : cs.length = 39) (pv A : Option Addr) (n k : Nat) : Tryz.prog.built 118 [(0, .agg cs.toArray), (1, .pointer pv), (2, .slice A n k)] = some (cs ++ [Value.pointer pv, Value.slice A n k]).toArray := by
  match cs, h with
  | x0 :: x1 :: x2 :: x3 :: x4 :: x5 :: x6 :: x7 :: x8 :: x9 :: x10 :: x11 :: x12 :: x13 :: x14 :: x15 :: x16 :: x17 :: x18 :: x19 :: x20 :: x21 :: x22 :: x23 :: x24 :: x25 :: x26 :: x27 :: x28 :: x29 :: x30 :: x31 :: x32 :: x33 :: x34 :: x35 :: x36 :: x37 :: x38 :: [], _ => exact built_lit x0 x1 x2 x3 x4 x5 x6 x7 x8 x9 x10 x11 x12 x13 x14 x15 x16 x17 x18 x19 x20 x21 x22 x23 x24 x25 x26 x27 x28 x29 x30 x31 x32 x33 x34 x35 x36 x37 x38 pv A n k
set_option maxRecDepth 20000 in
set_option maxHeartbeats 64000000 in
theorem right_any (w : World) (c : Mc) (ov : Value) (hl : c.regs.length = 32) (IA : Option Addr) (n ci : Nat) :
    Calls Tryz.prog 54 #[.agg (c.cells ov).toArray, .slice IA n ci] w fun e w' => e = .returned (.bool (rightB c n)) ∧ Below w.heap.size w w' := by
  obtain ⟨cs, hcs⟩ : ∃ cs, cs = (c.cells ov).toArray := ⟨_, rfl⟩
  obtain ⟨W, hW⟩ : ∃ W : World, W = w.alloc (.cells cs 37) := ⟨_, rfl⟩
  have hB : Below w.heap.size w W := by rw [hW]; exact (Below.refl _ _).alloc (Nat.le_refl _) _
  have h1 : W.heap[w.heap.size]? = some (.cells cs 37 (0, 0)) := by rw [hW]; exact heap_alloc_new w _
  have a1 : W.cell? ⟨w.heap.size, 1, none⟩ = some (.int .u64 ((c.reg 0 : Nat) : Int)) := (obj_cell h1 1).trans (by rw [hcs, List.getElem?_toArray]; exact cget_reg hl 0 (by omega))
  have a33 : W.cell? ⟨w.heap.size, 33, none⟩ = some (.int .i64 c.steps) := (obj_cell h1 33).trans (by rw [hcs, List.getElem?_toArray]; exact cget_tail hl 0 (by omega))
  have a35 : W.cell? ⟨w.heap.size, 35, none⟩ = some (.int .i64 c.code) := (obj_cell h1 35).trans (by rw [hcs, List.getElem?_toArray]; exact cget_tail hl 2 (by omega))
  have a36 : W.cell? ⟨w.heap.size, 36, none⟩ = some (.int .i64 c.fault) := (obj_cell h1 36).trans (by rw [hcs, List.getElem?_toArray]; exact cget_tail hl 3 (by omega))
  have a38 : W.cell? ⟨w.heap.size, 38, none⟩ = some (.int .i64 c.inn) := (obj_cell h1 38).trans (by rw [hcs, List.getElem?_toArray]; exact cget_tail hl 5 (by omega))
  rw [← hcs]
  unfold rightB
  generalize c.reg 0 = r at *
  generalize c.steps = st at *
  generalize c.code = co at *
  generalize c.fault = fa at *
  generalize c.inn = inn at *
  have HW := Lib.hid hW
  clear hW h1 hcs hl
  go_enter Tryz.func54, Tryz.ntmps54
  go_upto_region 1 with fail
  rw [← HW.out]
  cases f0 : (fa == 0)
  · cases f1 : (decide (30 ≤ fa))
    · cases t1 : ((r : Int) == 0)
      · go_wp2
        go_ret
        exact ⟨by simp [rightG, f0, f1, t1], hB⟩
      cases t2 : (decide (0 ≤ st))
      · go_wp2
        go_ret
        exact ⟨by simp [rightG, f0, f1, t1, t2], hB⟩
      cases t3 : (decide (0 ≤ co))
      · go_wp2
        go_ret
        exact ⟨by simp [rightG, f0, f1, t1, t2, t3], hB⟩
      cases t4 : (decide (co ≤ 255))
      · go_wp2
        go_ret
        exact ⟨by simp [rightG, f0, f1, t1, t2, t3, t4], hB⟩
      cases t5 : (decide (0 ≤ inn))
      · go_wp2
        go_ret
        exact ⟨by simp [rightG, f0, f1, t1, t2, t3, t4, t5], hB⟩
      cases t6 : (decide (inn ≤ (n : Int)))
      · go_wp2
        go_ret
        exact ⟨by simp [rightG, f0, f1, t1, t2, t3, t4, t5, t6], hB⟩
      go_wp2
      go_ret
      exact ⟨by simp [rightG, f0, f1, t1, t2, t3, t4, t5, t6], hB⟩
    · cases f2 : (decide (fa ≤ 34))
      · cases t1 : ((r : Int) == 0)
        · go_wp2
          go_ret
          exact ⟨by simp [rightG, f0, f1, f2, t1], hB⟩
        cases t2 : (decide (0 ≤ st))
        · go_wp2
          go_ret
          exact ⟨by simp [rightG, f0, f1, f2, t1, t2], hB⟩
        cases t3 : (decide (0 ≤ co))
        · go_wp2
          go_ret
          exact ⟨by simp [rightG, f0, f1, f2, t1, t2, t3], hB⟩
        cases t4 : (decide (co ≤ 255))
        · go_wp2
          go_ret
          exact ⟨by simp [rightG, f0, f1, f2, t1, t2, t3, t4], hB⟩
        cases t5 : (decide (0 ≤ inn))
        · go_wp2
          go_ret
          exact ⟨by simp [rightG, f0, f1, f2, t1, t2, t3, t4, t5], hB⟩
        cases t6 : (decide (inn ≤ (n : Int)))
        · go_wp2
          go_ret
          exact ⟨by simp [rightG, f0, f1, f2, t1, t2, t3, t4, t5, t6], hB⟩
        go_wp2
        go_ret
        exact ⟨by simp [rightG, f0, f1, f2, t1, t2, t3, t4, t5, t6], hB⟩
      · cases t1 : ((r : Int) == 0)
        · go_wp2
          go_ret
          exact ⟨by simp [rightG, f0, f1, f2, t1], hB⟩
        cases t2 : (decide (0 ≤ st))
        · go_wp2
          go_ret
          exact ⟨by simp [rightG, f0, f1, f2, t1, t2], hB⟩
        cases t3 : (decide (0 ≤ co))
        · go_wp2
          go_ret
          exact ⟨by simp [rightG, f0, f1, f2, t1, t2, t3], hB⟩
        cases t4 : (decide (co ≤ 255))
        · go_wp2
          go_ret
          exact ⟨by simp [rightG, f0, f1, f2, t1, t2, t3, t4], hB⟩
        cases t5 : (decide (0 ≤ inn))
        · go_wp2
          go_ret
          exact ⟨by simp [rightG, f0, f1, f2, t1, t2, t3, t4, t5], hB⟩
        cases t6 : (decide (inn ≤ (n : Int)))
        · go_wp2
          go_ret
          exact ⟨by simp [rightG, f0, f1, f2, t1, t2, t3, t4, t5, t6], hB⟩
        go_wp2
        go_ret
        exact ⟨by simp [rightG, f0, f1, f2, t1, t2, t3, t4, t5, t6], hB⟩
  · cases t1 : ((r : Int) == 0)
    · go_wp2
      go_ret
      exact ⟨by simp [rightG, f0, t1], hB⟩
    cases t2 : (decide (0 ≤ st))
    · go_wp2
      go_ret
      exact ⟨by simp [rightG, f0, t1, t2], hB⟩
    cases t3 : (decide (0 ≤ co))
    · go_wp2
      go_ret
      exact ⟨by simp [rightG, f0, t1, t2, t3], hB⟩
    cases t4 : (decide (co ≤ 255))
    · go_wp2
      go_ret
      exact ⟨by simp [rightG, f0, t1, t2, t3, t4], hB⟩
    cases t5 : (decide (0 ≤ inn))
    · go_wp2
      go_ret
      exact ⟨by simp [rightG, f0, t1, t2, t3, t4, t5], hB⟩
    cases t6 : (decide (inn ≤ (n : Int)))
    · go_wp2
      go_ret
      exact ⟨by simp [rightG, f0, t1, t2, t3, t4, t5, t6], hB⟩
    go_wp2
    go_ret
    exact ⟨by simp [rightG, f0, t1, t2, t3, t4, t5, t6], hB⟩
end Go.Proofs

/- patinalaw03.CpuNil: the walk: a machine that is nil. -/
namespace Go.Proofs
open Go Go.RowKit Go.Pat

theorem Step_nil (w : World) : Calls Tryz.prog 57 #[.pointer none] w fun e w' => e = .returned (.int .i64 30) ∧ w' = w := by
  go_enter Tryz.func57, Tryz.ntmps57
  go_wp2
  go_ret
  exact ⟨rfl, rfl⟩
theorem Run_nil (n : Int) (w : World) : Calls Tryz.prog 26 #[.pointer none, .int .i64 n] w fun e w' => e = .returned (.int .i64 0) ∧ w' = w := by
  go_enter Tryz.func26, Tryz.ntmps26
  go_wp2
  go_loopw [5] (fun i wr => i = .int .i64 0 ∧ wr = w) (fun _ _ => 0)
  case atStart => exact ⟨rfl, rfl⟩
  case round =>
    obtain ⟨rfl, rfl⟩ := hrel
    go_wp2
    go_ret
    exact ⟨rfl, rfl⟩
def cpuZ : Array Value := #[.int .u64 0, .int .u64 0, .int .u64 0, .int .u64 0, .int .u64 0, .int .u64 0, .int .u64 0, .int .u64 0, .int .u64 0, .int .u64 0, .int .u64 0, .int .u64 0, .int .u64 0, .int .u64 0, .int .u64 0, .int .u64 0, .int .u64 0, .int .u64 0, .int .u64 0, .int .u64 0, .int .u64 0, .int .u64 0, .int .u64 0, .int .u64 0, .int .u64 0, .int .u64 0, .int .u64 0, .int .u64 0, .int .u64 0, .int .u64 0, .int .u64 0, .int .u64 0, .int .u64 0, .int .i64 0, .bool false, .int .i64 0, .int .i64 0, .slice none 0 0, .int .i64 0]
theorem cpuZ_V : cpuV 0 = .agg cpuZ := rfl
theorem cpuZ_one : cpuZ.all (·.oneCell') = true := by simp [cpuZ, Value.oneCell']
theorem Tryz_sizeCpu : (Tryz.prog.info? 37).map (·.size) = some 39 := by kernel_rfl
theorem cpu_load (b : Nat) (cs : Array Value) (W : World) (hb : W.heap[b]? = some (.cells cs 37 (0, 0))) (hn : cs.size = 39) : (loadVar 37 ⟨b, 0, none⟩).run Tryz.prog W = .ok (.agg cs) W := by
  have := run_loadVar_mid (P := Tryz.prog) W b 0 37 cs.toList _ (fun j v hv => by rw [Nat.zero_add, cell_of_row _ _ j cs _ (0, 0) hb]; simpa using hv) Tryz.underlying37 rfl (by rw [Array.length_toList, hn]; exact Tryz_sizeCpu)
  simpa using this
theorem results_cpu1 (fn : Func) (hf : fn.results = #[.cell 2 37]) (tmps : Array Value) (b : Nat) (cs : Array Value) (W : World) (h2 : tmps[2]?.getD undef = .pointer (some ⟨b, 0, none⟩))
    (hb : W.heap[b]? = some (.cells cs 37 (0, 0))) (hn : cs.size = 39) : (results fn tmps).run Tryz.prog W = .ok (.agg cs) W := by
  have hl := cpu_load b cs W hb hn
  unfold results
  rw [hf]
  simp [h2, asAddr, hl]
set_option maxRecDepth 20000 in
set_option maxHeartbeats 4000000 in
theorem State_nil (w : World) : Calls Tryz.prog 27 #[.pointer none] w fun e w' => e = .returned (cpuV 0) ∧ Below w.heap.size w w' := by
  obtain ⟨W, hW⟩ : ∃ W : World, W = w.alloc (.cells cpuZ 37) := ⟨_, rfl⟩
  have hB : Below w.heap.size w W := by rw [hW]; exact (Below.refl _ _).alloc (Nat.le_refl _) _
  have h1 : W.heap[w.heap.size]? = some (.cells cpuZ 37 (0, 0)) := by rw [hW]; exact heap_alloc_new w _
  unfold cpuZ at hW
  have HW := Lib.hid hW
  clear hW
  go_enter Tryz.func27, Tryz.ntmps27
  go_upto_region 1 with fail
  rw [← HW.out]
  go_wp2_with (refine wpList_store_row (o := ⟨none, Op.store 37 (.tmp 2) (.tmp 6), _, _, _, _⟩) rfl 37 (.tmp 2) (.tmp 6) rfl w.heap.size cpuZ rfl rfl 37 _ h1 Tryz_sizeCpu rfl cpuZ_one ?_)
  have hX := setRow_heap W w.heap.size _ cpuZ _ _ h1
  refine bodyPost_ret (v := .agg cpuZ) (results_cpu1 _ rfl _ w.heap.size cpuZ _ rfl hX rfl) rfl ?_
  exact ⟨by rw [cpuZ_V], below_setRow hB (Nat.le_refl _) _⟩
end Go.Proofs

/- cpu.New. -/
namespace Go.Proofs
open Go Go.RowKit Go.Pat
theorem step_build3 {P : Program} {ops : Array Oper} {o : Oper} {a : Act} {w : World} {K : Act → World → Prop} {Q : Exit → Act → World → Prop} {E : Prop} (hgd : o.guard = none) (t : TypeId) (i0 i1 i2 : Nat) (x0 x1 x2 : Operand) (ho : o.op = .build t #[(i0, x0), (i1, x1), (i2, x2)])
    (v0 v1 v2 : Value) (h0 : a.eval x0 = v0) (h1 : a.eval x1 = v1) (h2 : a.eval x2 = v2) (cs : Array Value) (hb : P.built t [(i0, v0), (i1, v1), (i2, v2)] = some cs)
    (h : K (a.put o.dst (.agg cs)) w) : if Region.wanted o (yielded ops a.tmps) = true then Oper.wp P o a w K Q else E :=
  step_buildM hgd t _ ho cs (by subst h0 h1 h2; simpa using hb) h
/-- what New leaves. -/
def NewPost (w : World) (c : Mc) (ps : List PgIn) (inp : List UInt8) (e : Ending) (w' : World) : Prop :=
  Below w.heap.size w w' ∧
  ((rightB c inp.length = false ∧ e = .returned (.tuple #[.pointer none, .int .i64 1])) ∨
   (rightB c inp.length = true ∧ fromE (ps.map PgIn.pg) ≠ 0 ∧ e = .returned (.tuple #[.pointer none, .int .i64 (fromE (ps.map PgIn.pg))])) ∨
   (rightB c inp.length = true ∧ fromE (ps.map PgIn.pg) = 0 ∧ ∃ (m p mb : Nat) (ov iv : Value) (fs : List Fr), e = .returned (.tuple #[.pointer (some ⟨m, 0, none⟩), .int .i64 0]) ∧
    MachAt w' m p mb ov iv ⟨c, fs, inp⟩ ∧ fs.map Fr.pg = ps.map PgIn.pg ∧ (∀ k, mine m fs ov k → w.heap.size ≤ k) ∧ w.heap.size ≤ p ∧ w.heap.size ≤ mb ∧ ∀ g, iv.ownBlock = some g → w.heap.size ≤ g))
theorem rightB_inn {c : Mc} {n : Nat} (h : rightB c n = true) : 0 ≤ c.inn ∧ c.inn ≤ (n : Int) := by
  simp only [rightB, rightG, Bool.and_eq_true, decide_eq_true_eq] at h
  exact ⟨h.2.2.2.2.1, h.2.2.2.2.2.1⟩
set_option maxRecDepth 20000 in
set_option maxHeartbeats 16000000 in
theorem New_any3 (w : World) (c : Mc) (OA PA IA : Option Addr) (oc pc ic : Nat) (ps : List PgIn) (inp : List UInt8) (hl : c.regs.length = 32) (hsm : ∀ i, c.reg i < 18446744073709551616) (hpc : c.pc < 18446744073709551616)
    (hO : Bs w.heap.size w OA c.out) (hol : c.out.length ≤ 140737488355328) (hP : PgsAt w.heap.size w PA ps) (hI : Bs w.heap.size w IA inp) (hil : inp.length ≤ 140737488355328) :
    Calls Tryz.prog 25 #[.agg (c.cells (.slice OA c.out.length oc)).toArray, .slice PA ps.length pc, .slice IA inp.length ic] w (NewPost w c ps inp) := by
  obtain ⟨ov0, hov⟩ : ∃ ov0 : Value, ov0 = .slice OA c.out.length oc := ⟨_, rfl⟩
  rw [← hov]
  obtain ⟨W, hW⟩ : ∃ W : World, W = w.alloc (.cells (c.cells ov0).toArray 37) := ⟨_, rfl⟩
  have hB : Below w.heap.size w W := by rw [hW]; exact (Below.refl _ _).alloc (Nat.le_refl _) _
  have h1 : W.heap[w.heap.size]? = some (.cells (c.cells ov0).toArray 37 (0, 0)) := by rw [hW]; exact heap_alloc_new w _
  have hr0 : W.rangeAt w.heap.size 0 (c.cells ov0) := fun j v hv => (obj_cell h1 (0 + j)).trans (by rw [Nat.zero_add, List.getElem?_toArray]; exact hv)
  have hsz : (Tryz.prog.info? 37).map (·.size) = some (c.cells ov0).length := by rw [ccells_len hl]; exact Tryz_sizeCpu2
  have HC := Lib.hid (And.intro hr0 (And.intro hsz (And.intro h1 hov)))
  have HW := Lib.hid hW
  have hbs : w.heap.size < W.heap.size := by rw [hW, World.size_alloc]; omega
  have HR := Lib.hid (fun W2 => right_any W2 c ov0 hl IA inp.length ic)
  have HH := Lib.hid (And.intro hl (And.intro hsm (And.intro hpc (And.intro hO (And.intro hol (And.intro hP (And.intro hI hil)))))))
  clear hW hov h1 hr0 hsz hl hsm hpc hO hP hI
  go_enter Tryz.func25, Tryz.ntmps25
  go_upto_region 1 with fail
  rw [← HW.out]
  go_wp2_with (refine wpList_load_want (op := ⟨some 10, _, _, _, _, _⟩) rfl 37 (.tmp 3) rfl w.heap.size 0 rfl (c.cells ov0) _ HC.out.1 Tryz.underlying37 rfl HC.out.2.1 ?_)
  refine Calls.mono (HR.out _) ?_
  rintro e w1 ⟨rfl, hB1⟩
  cases hr : rightB c inp.length with
  | false =>
    go_wp2
    go_ret2
    exact ⟨hB.trans (hB1.mono hB.size), .inl ⟨hr, rfl⟩⟩
  | true =>
    go_wp2_with fail
    refine Calls.mono (From_all _ PA pc ps ((HH.out.2.2.2.2.2.1.below (hB.trans (hB1.mono hB.size))).mono (Nat.le_trans hB.size hB1.size))) ?_
    rintro e w2 h
    rcases h with ⟨h0, p, mb, fs, rfl, hfs, hM, hp, hmb, hfb, hB2⟩ | ⟨h0, rfl, hB2⟩
    · have hBw : Below w.heap.size w w2 := (hB.trans (hB1.mono hB.size)).trans (hB2.mono (Nat.le_trans hB.size hB1.size))
      have h12 : w2.heap[w.heap.size]? = some (.cells (c.cells ov0).toArray 37 (0, 0)) := by
        rw [hB2.block _ (Nat.lt_of_lt_of_le hbs hB1.size), hB1.block _ hbs]; exact HC.out.2.2.1
      have a37 : w2.cell? ⟨w.heap.size, 37, none⟩ = some (.slice OA c.out.length oc) := (obj_cell h12 37).trans (by rw [List.getElem?_toArray]; exact (cget_tail HH.out.1 4 (by omega)).trans (by rw [← HC.out.2.2.2]; rfl))
      have fz37 : w2.frozen? ⟨w.heap.size, 37, none⟩ = false := obj_frozen h12 37
      have HOB := Lib.hid (show Bs w2.heap.size w2 OA c.out from (HH.out.2.2.2.1.below hBw).mono hBw.size)
      have HIB := Lib.hid (show Bs w2.heap.size w2 IA inp from (HH.out.2.2.2.2.2.2.1.below hBw).mono hBw.size)
      go_wp2_with (at_builtin; refine wpList_appB _ rfl _ _ rfl w2.heap.size _ [] rfl (OwnB.nil _ _) w2.heap.size OA c.out.length oc c.out rfl rfl HOB.out (by rw [List.length_nil, Nat.zero_add]; exact hol) (Nat.le_refl _) ?hk)
      intro v' w3 hown hbel _
      obtain ⟨A4, c4, hv4, -⟩ := hown.form
      subst hv4
      have h23 := hbel w2 (Below.refl _ _)
      clear hbel
      have hws2 : w.heap.size < w2.heap.size := lt_of_block h12
      have h13 : w3.heap[w.heap.size]? = some (.cells (c.cells ov0).toArray 37 (0, 0)) := (h23.block _ hws2).trans h12
      have fz : w3.frozen? ⟨w.heap.size, 37, none⟩ = false := obj_frozen h13 37
      have ce : w3.cell? ⟨w.heap.size, 37, none⟩ = some ov0 := (obj_cell h13 37).trans (by rw [List.getElem?_toArray]; exact cget_tail HH.out.1 4 (by omega))
      clear h12 a37 fz37
      obtain ⟨W4, hW4⟩ : ∃ W4 : World, W4 = w3.setCell ⟨w.heap.size, 37, none⟩ (Value.slice A4 c.out.length c4) := ⟨_, rfl⟩
      have h14 : W4.heap[w.heap.size]? = some (.cells (c.cells (Value.slice A4 c.out.length c4)).toArray 37 (0, 0)) := by rw [hW4, obj_set h13 37 (Value.slice A4 c.out.length c4), List.setIfInBounds_toArray, cset_out HH.out.1]
      have hr4 : W4.rangeAt w.heap.size 0 (c.cells (Value.slice A4 c.out.length c4)) := fun j v hv => (obj_cell h14 (0 + j)).trans (by rw [Nat.zero_add, List.getElem?_toArray]; exact hv)
      have hsz4 : (Tryz.prog.info? 37).map (·.size) = some (c.cells (Value.slice A4 c.out.length c4)).length := by rw [ccells_len HH.out.1]; exact Tryz_sizeCpu2
      have HL := Lib.hid (And.intro hr4 hsz4)
      have hk4 : ∀ g, g ≠ w.heap.size → W4.heap[g]? = w3.heap[g]? := fun g hg => by rw [hW4]; exact Below.heap_setCell w3 ⟨w.heap.size, 37, none⟩ (Value.slice A4 c.out.length c4) g hg
      have hs4 : W4.heap.size = w3.heap.size := by rw [hW4]; simp [World.setCell]
      have hB4 : Below w.heap.size w W4 := by rw [hW4]; exact (hBw.trans (h23.mono hBw.size)).setCell (Nat.le_refl _) _
      have hle4 : w2.heap.size ≤ W4.heap.size := by rw [hs4]; exact h23.size
      have HI := Lib.hid (show Bs W4.heap.size W4 IA inp from (HH.out.2.2.2.2.2.2.1.below hB4).mono hB4.size)
      have hW12 : w.heap.size < w1.heap.size := Nat.lt_of_lt_of_le hbs hB1.size
      have HM := Lib.hid (fun A5 c5 => built_mach (c.cells (Value.slice A4 c.out.length c4)) (ccells_len HH.out.1) (some ⟨p, 0, none⟩) A5 inp.length c5)
      have hlt := hM.lt
      have hown4 : OwnB W4 w2.heap.size (Value.slice A4 c.out.length c4) c.out := hown.keep fun g hg => hk4 g (by have := (hown.block hg).1; omega)
      have hM4 : MemAt W4 p mb fs := hM.keep ((hk4 _ (by omega)).trans (h23.block _ hlt.1)) ((hk4 _ (by omega)).trans (h23.block _ hlt.2.1)) fun f hf => (hk4 _ (by have := hfb f hf; omega)).trans (h23.block _ (hlt.2.2 f hf))
      have HE := Lib.hid (show ∀ (w5 : World) (A5 : Option Addr) (c5 : Nat), OwnB w5 W4.heap.size (.slice A5 inp.length c5) inp → Below W4.heap.size W4 w5 →
          NewPost w c ps inp (.returned (.tuple #[.pointer (some ⟨w5.heap.size, 0, none⟩), .int .i64 0])) (w5.alloc (.cells (c.cells (Value.slice A4 c.out.length c4) ++ [Value.pointer (some ⟨p, 0, none⟩), Value.slice A5 inp.length c5]).toArray 118)) from ?he)
      case he =>
        intro w5 A5 c5 hown5 hB5
        have hB6 : Below W4.heap.size W4 (w5.alloc (.cells (c.cells (Value.slice A4 c.out.length c4) ++ [Value.pointer (some ⟨p, 0, none⟩), Value.slice A5 inp.length c5]).toArray 118)) := hB5.alloc hB5.size _
        have hb5 : ∀ g, Value.ownBlock (.slice A5 inp.length c5) = some g → W4.heap.size ≤ g := fun g hg => (hown5.block hg).1
        have hbv : ∀ g, (Value.slice A4 c.out.length c4).ownBlock = some g → w2.heap.size ≤ g ∧ g < W4.heap.size := fun g hg => by obtain ⟨h1, cur, h2⟩ := hown4.block hg; exact ⟨h1, lt_of_block h2⟩
        refine ⟨hB4.trans (hB6.mono hB4.size), .inr (.inr ⟨hr, h0, w5.heap.size, p, mb, (Value.slice A4 c.out.length c4), .slice A5 inp.length c5, fs, rfl, ?_, hfs, ?_, by omega, by omega, fun g hg => by have := hb5 g hg; have := hB4.size; omega⟩)⟩
        · refine ⟨?_, hM4.below hM4.lt hB6, HH.out.1, HH.out.2.1, HH.out.2.2.1, (hown4.below hB6).base (Nat.zero_le _), (hown5.alloc _).base (Nat.zero_le _), rightB_inn hr, fun g hg hm => ?_, fun g hg => ⟨fun hm => ?_, fun hv => ?_⟩⟩
          · rw [mcells_app]; exact heap_alloc_new w5 _
          · obtain ⟨f, hf, rfl⟩ := List.mem_map.1 hm
            have h1 := (hbv _ hg).1
            have h2 := hlt.2.2 f hf
            omega
          · obtain ⟨f, hf, rfl⟩ := List.mem_map.1 hm
            have h1 := hb5 _ hg
            have h2 := hlt.2.2 f hf
            omega
          · have h1 := hb5 _ hg
            have h2 := (hbv _ hv).2
            omega
        · intro k hk
          rcases hk with rfl | hk | hk
          · have h1 := hB5.size
            have h2 := hB4.size
            omega
          · obtain ⟨f, hf, rfl⟩ := List.mem_map.1 hk
            have := hfb f hf
            omega
          · have h1 := (hbv _ hk).1
            omega
      have HW4 := Lib.hid hW4
      clear hW4 hr4 hsz4 h13 h14 hk4 hown hown4 hM4 hM hB4 hs4 HOB HIB hfs h0 hr hlt hp hmb hfb h23
      go_upto_region 7 with fail
      rw [← HW4.out]
      refine wp_region_any (by kernel_rfl) ?_
      change wpAny _ _ _ _ _ _ _ (World.drew _)
      refine wpAny_take (i := 1) (v := .pointer (some ⟨p, 0, none⟩)) rfl (by kernel_rfl) (by kernel_rfl) (by kernel_rfl) (fun _ _ _ h => h) (Or.inl ⟨by rfl, ?_⟩) ?_
      · intro w; go_simp
      refine wpAny_take (i := 2) (v := .slice IA inp.length ic) rfl (by kernel_rfl) (by kernel_rfl) (by kernel_rfl) (fun _ _ _ h => h) (Or.inl ⟨by rfl, ?_⟩) ?_
      · intro w; go_simp
      refine wpAny_ready (rs := [0, 3]) (by kernel_rfl) (by simp) ?_
      refine AllReady.cons (o := ⟨some 26, _, _, _, _, _⟩) rfl (fun K hK => ?_) (AllReady.cons (o := ⟨some 29, _, _, _, _, _⟩) rfl (fun K hK => ?_) AllReady.nil)
      · refine step_loadM rfl 37 (.tmp 3) rfl w.heap.size 0 rfl (c.cells (Value.slice A4 c.out.length c4)) _ HL.out.1 Tryz.underlying37 rfl HL.out.2 ?_
        refine hK _ _ ?_
        clear hK K
        refine wpAny_ready (rs := [3]) (by kernel_rfl) (by simp) ?_
        refine AllReady.cons (o := ⟨some 29, _, _, _, _, _⟩) rfl (fun K hK => ?_) AllReady.nil
        refine step_appB rfl _ _ rfl W4.heap.size _ [] rfl (OwnB.nil _ _) W4.heap.size IA inp.length ic inp rfl rfl HI.out (by rw [List.length_nil, Nat.zero_add]; exact hil) (Nat.le_refl _) ?_
        intro v5 w5 hown5 hbel5 _
        rw [List.nil_append] at hown5
        refine hK _ _ ?_
        clear hK K
        have hB5 := hbel5 W4 (Below.refl _ _).drew
        obtain ⟨A5, c5, rfl, hbs5⟩ := hown5.form
        refine wpAny_ready (rs := [4]) (by kernel_rfl) (by simp) ?_
        refine AllReady.cons (o := ⟨some 30, _, _, _, _, _⟩) rfl (fun K hK => ?_) AllReady.nil
        refine step_build3 rfl 118 _ _ _ _ _ _ rfl _ _ _ rfl rfl rfl (c.cells (Value.slice A4 c.out.length c4) ++ [Value.pointer (some ⟨p, 0, none⟩), Value.slice A5 inp.length c5]).toArray (HM.out A5 c5) ?_
        refine hK _ _ ?_
        clear hK K
        refine wpAny_ready (rs := [5]) (by kernel_rfl) (by simp) ?_
        refine AllReady.cons (o := ⟨some 31, _, _, _, _, _⟩) rfl (fun K hK => ?_) AllReady.nil
        go_simp
        refine hK _ _ ?_
        clear hK K
        refine wpAny_ready (rs := [6]) (by kernel_rfl) (by simp) ?_
        refine AllReady.cons (o := ⟨some 6, _, _, _, _, _⟩) rfl (fun K hK => ?_) AllReady.nil
        go_simp
        refine hK _ _ ?_
        clear hK K
        refine wpAny_ready (rs := [7]) (by kernel_rfl) (by simp) ?_
        refine AllReady.cons (o := ⟨some 7, _, _, _, _, _⟩) rfl (fun K hK => ?_) AllReady.nil
        go_simp
        refine hK _ _ ?_
        clear hK K
        refine wpAny_done (by kernel_rfl) ?_ _
        go_wp2
        go_ret2
        exact HE.out w5 A5 c5 hown5 hB5
      · refine step_appB rfl _ _ rfl W4.heap.size _ [] rfl (OwnB.nil _ _) W4.heap.size IA inp.length ic inp rfl rfl HI.out (by rw [List.length_nil, Nat.zero_add]; exact hil) (Nat.le_refl _) ?_
        intro v5 w5 hown5 hbel5 _
        rw [List.nil_append] at hown5
        refine hK _ _ ?_
        clear hK K
        refine wpAny_ready (rs := [0]) (by kernel_rfl) (by simp) ?_
        refine AllReady.cons (o := ⟨some 26, _, _, _, _, _⟩) rfl (fun K hK => ?_) AllReady.nil
        have HL5 := Lib.hid (show w5.rangeAt w.heap.size 0 (c.cells (Value.slice A4 c.out.length c4)) from fun j v hv => ((hbel5 W4 (Below.refl _ _).drew).cell (p := ⟨w.heap.size, 0 + j, none⟩) (Nat.lt_of_lt_of_le hws2 hle4)).trans (HL.out.1 j v hv))
        refine step_loadM rfl 37 (.tmp 3) rfl w.heap.size 0 rfl (c.cells (Value.slice A4 c.out.length c4)) _ HL5.out Tryz.underlying37 rfl HL.out.2 ?_
        refine hK _ _ ?_
        clear hK K
        have hB5 := hbel5 W4 (Below.refl _ _).drew
        obtain ⟨A5, c5, rfl, hbs5⟩ := hown5.form
        refine wpAny_ready (rs := [4]) (by kernel_rfl) (by simp) ?_
        refine AllReady.cons (o := ⟨some 30, _, _, _, _, _⟩) rfl (fun K hK => ?_) AllReady.nil
        refine step_build3 rfl 118 _ _ _ _ _ _ rfl _ _ _ rfl rfl rfl (c.cells (Value.slice A4 c.out.length c4) ++ [Value.pointer (some ⟨p, 0, none⟩), Value.slice A5 inp.length c5]).toArray (HM.out A5 c5) ?_
        refine hK _ _ ?_
        clear hK K
        refine wpAny_ready (rs := [5]) (by kernel_rfl) (by simp) ?_
        refine AllReady.cons (o := ⟨some 31, _, _, _, _, _⟩) rfl (fun K hK => ?_) AllReady.nil
        go_simp
        refine hK _ _ ?_
        clear hK K
        refine wpAny_ready (rs := [6]) (by kernel_rfl) (by simp) ?_
        refine AllReady.cons (o := ⟨some 6, _, _, _, _, _⟩) rfl (fun K hK => ?_) AllReady.nil
        go_simp
        refine hK _ _ ?_
        clear hK K
        refine wpAny_ready (rs := [7]) (by kernel_rfl) (by simp) ?_
        refine AllReady.cons (o := ⟨some 7, _, _, _, _, _⟩) rfl (fun K hK => ?_) AllReady.nil
        go_simp
        refine hK _ _ ?_
        clear hK K
        refine wpAny_done (by kernel_rfl) ?_ _
        go_wp2
        go_ret2
        exact HE.out w5 A5 c5 hown5 hB5
    · have t0 : ((fromE (ps.map PgIn.pg)) != 0) = true := by simpa using h0
      go_wp2
      go_ret2
      exact ⟨(hB.trans (hB1.mono hB.size)).trans (hB2.mono (Nat.le_trans hB.size hB1.size)), .inr (.inl ⟨hr, h0, rfl⟩)⟩
end Go.Proofs

/- (*cpu.Machine).State: a copy of the state. -/
namespace Go.Proofs
open Go Go.RowKit Go.Pat
theorem mcells_range {w : World} {m p mb : Nat} {ov iv : Value} {s : Ms} (h : MachAt w m p mb ov iv s) : w.rangeAt m 0 (s.c.cells ov) := fun j v hv => by
  refine h.cell (0 + j) v ?_
  rw [Nat.zero_add, mcells_app, List.getElem?_append_left]
  · exact hv
  · rcases Nat.lt_or_ge j (s.c.cells ov).length with h | h
    · exact h
    · rw [List.getElem?_eq_none h] at hv; cases hv
theorem OwnB.one {w : World} {base : Nat} {v : Value} {l : List UInt8} (h : OwnB w base v l) : v.oneCell' = true := by
  obtain ⟨A, c, rfl, -⟩ := h.form
  rfl
def StateTo (s : Ms) (w : World) (e : Ending) (w' : World) : Prop := ∃ ov', e = .returned (.agg (s.c.cells ov').toArray) ∧ OwnB w' w.heap.size ov' s.c.out ∧ Below w.heap.size w w'
set_option maxRecDepth 20000 in
set_option maxHeartbeats 16000000 in
theorem State_any (w : World) (m p mb : Nat) (ov iv : Value) (s : Ms) (hM : MachAt w m p mb ov iv s) (hol : s.c.out.length ≤ 140737488355328) :
    Calls Tryz.prog 27 #[.pointer (some ⟨m, 0, none⟩)] w (StateTo s w) := by
  obtain ⟨OA, oc, hov, hbs⟩ := hM.out.form
  have hone : ov.oneCell' = true := hM.out.one
  obtain ⟨W, hW⟩ : ∃ W : World, W = w.alloc (.cells cpuZ 37) := ⟨_, rfl⟩
  obtain ⟨W2, hW2⟩ : ∃ W2 : World, W2 = W.alloc (.cells cpuZ 37) := ⟨_, rfl⟩
  obtain ⟨W3, hW3⟩ : ∃ W3 : World, W3 = W2.setRow W.heap.size (s.c.cells ov).toArray := ⟨_, rfl⟩
  have hB : Below w.heap.size w W := by rw [hW]; exact (Below.refl _ _).alloc (Nat.le_refl _) _
  have hB2 : Below w.heap.size w W2 := by rw [hW2]; exact hB.alloc hB.size _
  have hB3 : Below w.heap.size w W3 := by rw [hW3]; exact below_setRow hB2 hB.size _
  have hsz : (s.c.cells ov).toArray.size = 39 := by rw [List.size_toArray, ccells_len hM.len]
  have h2 : W2.heap[W.heap.size]? = some (.cells cpuZ 37 (0, 0)) := by rw [hW2]; exact heap_alloc_new W _
  have h20 : W2.heap[w.heap.size]? = some (.cells cpuZ 37 (0, 0)) := by rw [hW2, hW]; exact obj_alloc (heap_alloc_new w _)
  have hne : w.heap.size ≠ W.heap.size := by rw [hW, World.size_alloc]; omega
  have h3 : W3.heap[W.heap.size]? = some (.cells (s.c.cells ov).toArray 37 (0, 0)) := by rw [hW3]; exact setRow_heap W2 _ cpuZ _ _ _ h2
  have h30 : W3.heap[w.heap.size]? = some (.cells cpuZ 37 (0, 0)) := by rw [hW3, setRow_other W2 _ _ _ hne]; exact h20
  have a37 : W3.cell? ⟨W.heap.size, 37, none⟩ = some ov := (obj_cell h3 37).trans (by rw [List.getElem?_toArray]; exact cget_tail hM.len 4 (by omega))
  have hr := mcells_range (hM.below hB)
  have hszp : (Tryz.prog.info? 37).map (·.size) = some (s.c.cells ov).length := by rw [ccells_len hM.len]; exact Tryz_sizeCpu2
  have hszq : (Tryz.prog.info? 37).map (·.size) = some (s.c.cells ov).toArray.size := by rw [hsz]; exact Tryz_sizeCpu2
  have hold : cpuZ.size = (s.c.cells ov).toArray.size := by rw [hsz]; rfl
  have hlen := hM.len
  have HK := Lib.hid (And.intro hr (And.intro hszp (And.intro hszq (And.intro hold (And.intro h2 (And.intro h3 (And.intro h30 (And.intro (cells_oneA (c := s.c) hone) hbs))))))))
  unfold cpuZ at hW hW2
  have HW := Lib.hid hW
  have HW2 := Lib.hid hW2
  have HW3 := Lib.hid hW3
  have HO := Lib.hid hov
  have hWs : w.heap.size < W.heap.size := by rw [hW, World.size_alloc]; omega
  have hW3s : W.heap.size < W3.heap.size := lt_of_block h3
  clear hW hW2 hW3 hr hszp hszq hold h2 h3 h30 h20 hov hbs hone
  go_enter Tryz.func27, Tryz.ntmps27
  go_upto_region 3 with fail
  rw [← HW.out]
  go_wp2_with (first
    | refine wpList_load_want (op := ⟨some 10, _, _, _, _, _⟩) rfl 37 (.tmp 9) rfl m 0 rfl (s.c.cells ov) _ HK.out.1 Tryz.underlying37 rfl HK.out.2.1 ?_
    | (rw [← HW2.out]; refine wpList_store_row (o := ⟨none, Op.store 37 (.tmp 3) (.tmp 10), _, _, _, _⟩) rfl 37 (.tmp 3) (.tmp 10) rfl W.heap.size (s.c.cells ov).toArray rfl rfl 37 _ HK.out.2.2.2.2.1 HK.out.2.2.1 HK.out.2.2.2.1 HK.out.2.2.2.2.2.2.2.1 ?_; rw [← HW3.out])
    | (at_builtin; refine wpList_appB _ rfl _ _ rfl W3.heap.size _ [] rfl (OwnB.nil _ _) W3.heap.size OA s.c.out.length oc s.c.out HO.out rfl ?hr (by rw [List.length_nil, Nat.zero_add]; exact hol) (Nat.le_refl _) ?hk))
  case hr => exact (HK.out.2.2.2.2.2.2.2.2.below hB3).mono hB3.size
  case hk =>
    intro v' w4 hown hbel _
    obtain ⟨A4, c4, hv4, -⟩ := hown.form
    subst hv4
    have h4 := hbel W3 (Below.refl _ _)
    clear hbel
    have h43 : w4.heap[W.heap.size]? = some (.cells (s.c.cells ov).toArray 37 (0, 0)) := (h4.block _ hW3s).trans HK.out.2.2.2.2.2.1
    have h40 : w4.heap[w.heap.size]? = some (.cells cpuZ 37 (0, 0)) := (h4.block _ (Nat.lt_trans hWs hW3s)).trans HK.out.2.2.2.2.2.2.1
    have ce : w4.cell? ⟨W.heap.size, 37, none⟩ = some ov := (obj_cell h43 37).trans (by rw [List.getElem?_toArray]; exact cget_tail hlen 4 (by omega))
    have fz : w4.frozen? ⟨W.heap.size, 37, none⟩ = false := obj_frozen h43 37
    obtain ⟨W5, hW5⟩ : ∃ W5 : World, W5 = w4.setCell ⟨W.heap.size, 37, none⟩ (Value.slice A4 s.c.out.length c4) := ⟨_, rfl⟩
    have h53 : W5.heap[W.heap.size]? = some (.cells (s.c.cells (Value.slice A4 s.c.out.length c4)).toArray 37 (0, 0)) := by
      rw [hW5, obj_set h43 37 (Value.slice A4 s.c.out.length c4), List.setIfInBounds_toArray, cset_out hlen]
    have h50 : W5.heap[w.heap.size]? = some (.cells cpuZ 37 (0, 0)) := by rw [hW5, Below.heap_setCell w4 ⟨W.heap.size, 37, none⟩ (Value.slice A4 s.c.out.length c4) _ (Nat.ne_of_lt hWs)]; exact h40
    have hr5 : W5.rangeAt W.heap.size 0 (s.c.cells (Value.slice A4 s.c.out.length c4)) := fun j v hv => (obj_cell h53 (0 + j)).trans (by rw [Nat.zero_add, List.getElem?_toArray]; exact hv)
    have hB5 : Below w.heap.size w W5 := by rw [hW5]; exact (hB3.trans (h4.mono hB3.size)).setCell (Nat.le_of_lt hWs) _
    have hsz5 : (s.c.cells (Value.slice A4 s.c.out.length c4)).toArray.size = 39 := by rw [List.size_toArray, ccells_len hlen]
    have hszp5 : (Tryz.prog.info? 37).map (·.size) = some (s.c.cells (Value.slice A4 s.c.out.length c4)).length := by rw [ccells_len hlen]; exact Tryz_sizeCpu2
    have hszq5 : (Tryz.prog.info? 37).map (·.size) = some (s.c.cells (Value.slice A4 s.c.out.length c4)).toArray.size := by rw [hsz5]; exact Tryz_sizeCpu2
    have hold5 : cpuZ.size = (s.c.cells (Value.slice A4 s.c.out.length c4)).toArray.size := by rw [hsz5]; rfl
    have hone5 := cells_oneA (c := s.c) hown.one
    have HK5 := Lib.hid (And.intro hr5 (And.intro hszp5 (And.intro hszq5 (And.intro hold5 (And.intro h50 hone5)))))
    have HW5 := Lib.hid hW5
    have hown5 : OwnB W5 w.heap.size (Value.slice A4 s.c.out.length c4) s.c.out := by
      rw [hW5]
      refine OwnB.base (OwnB.keep hown fun g hg => Below.heap_setCell w4 ⟨W.heap.size, 37, none⟩ (Value.slice A4 s.c.out.length c4) g ?_) (Nat.le_of_lt (Nat.lt_trans hWs hW3s))
      have := (hown.block hg).1
      simp only; omega
    clear hW5 hr5 hszp5 hszq5 hold5 hone5
    go_wp2_with (first
      | (rw [← HW5.out]; refine wpList_load_want (op := ⟨some 15, _, _, _, _, _⟩) rfl 37 (.tmp 3) rfl W.heap.size 0 rfl (s.c.cells (Value.slice A4 s.c.out.length c4)) _ HK5.out.1 Tryz.underlying37 rfl HK5.out.2.1 ?_)
      | refine wpList_store_row (o := ⟨none, Op.store 37 (.tmp 2) (.tmp 15), _, _, _, _⟩) rfl 37 (.tmp 2) (.tmp 15) rfl w.heap.size (s.c.cells (Value.slice A4 s.c.out.length c4)).toArray rfl rfl 37 _ HK5.out.2.2.2.2.1 HK5.out.2.2.1 HK5.out.2.2.2.1 HK5.out.2.2.2.2.2 ?_)
    have hX := setRow_heap W5 w.heap.size cpuZ (s.c.cells (Value.slice A4 s.c.out.length c4)).toArray _ _ h50
    refine bodyPost_ret (v := .agg (s.c.cells (Value.slice A4 s.c.out.length c4)).toArray) (results_cpu1 _ rfl _ w.heap.size (s.c.cells (Value.slice A4 s.c.out.length c4)).toArray _ rfl hX hsz5) rfl ?_
    refine ⟨(Value.slice A4 s.c.out.length c4), rfl, OwnB.keep hown5 fun g hg => ?_, below_setRow hB5 (Nat.le_refl _) _⟩
    refine setRow_other W5 _ _ _ ?_
    have := (hown.block hg).1
    omega
end Go.Proofs
