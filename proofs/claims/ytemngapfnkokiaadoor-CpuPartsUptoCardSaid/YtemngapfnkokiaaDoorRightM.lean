/- cpu.right. -/
import Derived.Test.YtemngapfnkokiaaDoorRunM
import Derived.Test.YtemngapfnkokiaaDoorCpu
import Derived.Test.YtemngapfnkokiaaDoorStepB
import Derived.Laws.Tables
import Derived.RegionTactic
namespace Go.Pat
open Go Go.RowKit
/-- is a state right. -/
def rightG (r : Nat) (st co inn fa : Int) (n : Nat) : Bool := ((r : Int) == 0) && (decide (0 ≤ st) && (decide (0 ≤ co) && (decide (co ≤ 255) && (decide (0 ≤ inn) && (decide (inn ≤ (n : Int)) && ((fa == 0) || (decide (30 ≤ fa) && decide (fa ≤ 34))))))))
def rightB (c : Mc) (n : Nat) : Bool := rightG (c.reg 0) c.steps c.code c.inn c.fault n
section
variable {c : Mc} {ov : Value}
theorem cget_pc : (c.cells ov)[0]? = some (.int .u64 (c.pc : Int)) := rfl
theorem cget_reg (h : c.regs.length = 32) (i : Nat) (hi : i < 32) : (c.cells ov)[1 + i]? = some (.int .u64 ((c.reg i : Nat) : Int)) := by
  have h1 := mget_reg (ov := ov) (pv := .int .i64 0) (iv := .int .i64 0) h i hi
  rw [mcells_app, List.getElem?_append_left (by rw [ccells_len h]; omega)] at h1
  exact h1
theorem cget_tail (h : c.regs.length = 32) (i : Nat) (hi : i < 6) : (c.cells ov)[33 + i]? = (c.tail ov)[i]? := by
  have h1 := mget_tail (ov := ov) (pv := .int .i64 0) (iv := .int .i64 0) h i
  rw [mcells_app, List.getElem?_append_left (by rw [ccells_len h]; omega), List.getElem?_append_left (by simp [Mc.tail]; omega)] at h1
  exact h1
theorem cset_out (h : c.regs.length = 32) (v : Value) : (c.cells ov).set 37 v = c.cells v := by
  have h1 := mset_out (ov := ov) (pv := .int .i64 0) (iv := .int .i64 0) h v c.out
  rw [mcells_app, mcells_app, List.set_append_left _ _ (by rw [ccells_len h]; omega)] at h1
  exact List.append_cancel_right h1
theorem cells_one (h : ov.oneCell' = true) : (c.cells ov).all (·.oneCell') = true := by
  have e1 : ∀ (k : IntKind) (n : Int), (Value.int k n).oneCell' = true := fun _ _ => rfl
  have e2 : ∀ b : Bool, (Value.bool b).oneCell' = true := fun _ => rfl
  simp [Mc.cells, Mc.tail, List.all_append, List.all_map, rV, h, e1, e2]
theorem cells_oneA (h : ov.oneCell' = true) : (c.cells ov).toArray.all (·.oneCell') = true := by
  rw [List.all_toArray]
  exact cells_one h
end
end Go.Pat
namespace Go.Proofs
open Go Go.RowKit Go.Pat
theorem step_loadM {P : Program} {ops : Array Oper} {o : Oper} {a : Act} {w : World} {K : Act → World → Prop} {Q : Exit → Act → World → Prop} {E : Prop} (hgd : o.guard = none) (ty : TypeId) (x : Operand) (ho : o.op = .load ty x)
    (b off : Nat) (hx : a.eval x = .pointer (some ⟨b, off, none⟩)) (cs : List Value) (d : TypeDesc) (hc : w.rangeAt b off cs) (hu : P.underlying ty = some d) (hd : d.isRow = true) (hi : (P.info? ty).map (·.size) = some cs.length)
    (h : K (a.put o.dst (.agg cs.toArray)) w) : if Region.wanted o (yielded ops a.tmps) = true then Oper.wp P o a w K Q else E := by
  have hw : Region.wanted o (yielded ops a.tmps) = true := by simp [Region.wanted, hgd]
  rw [if_pos hw]
  exact wp_load_mid ty x ho b off hx cs d hc hu hd hi h
theorem step_buildM {P : Program} {ops : Array Oper} {o : Oper} {a : Act} {w : World} {K : Act → World → Prop} {Q : Exit → Act → World → Prop} {E : Prop} (hgd : o.guard = none) (t : TypeId) (parts : Array (Nat × Operand)) (ho : o.op = .build t parts)
    (cs : Array Value) (hb : P.built t (parts.map fun (i, x) => (i, a.eval x)).toList = some cs)
    (h : K (a.put o.dst (.agg cs)) w) : if Region.wanted o (yielded ops a.tmps) = true then Oper.wp P o a w K Q else E := by
  have hw : Region.wanted o (yielded ops a.tmps) = true := by simp [Region.wanted, hgd]
  rw [if_pos hw]
  refine wp_build t parts ho (by rw [hb]; rfl) ?_
  rw [hb]
  exact h
theorem Tryd_sizeCpu2 : (Tryd.prog.info? 76).map (·.size) = some 39 := by kernel_rfl
theorem built_lit (x0 x1 x2 x3 x4 x5 x6 x7 x8 x9 x10 x11 x12 x13 x14 x15 x16 x17 x18 x19 x20 x21 x22 x23 x24 x25 x26 x27 x28 x29 x30 x31 x32 x33 x34 x35 x36 x37 x38 : Value) (pv A : Option Addr) (n k : Nat) : Tryd.prog.built 129 [(0, .agg #[x0, x1, x2, x3, x4, x5, x6, x7, x8, x9, x10, x11, x12, x13, x14, x15, x16, x17, x18, x19, x20, x21, x22, x23, x24, x25, x26, x27, x28, x29, x30, x31, x32, x33, x34, x35, x36, x37, x38]), (1, .pointer pv), (2, .slice A n k)] = some #[x0, x1, x2, x3, x4, x5, x6, x7, x8, x9, x10, x11, x12, x13, x14, x15, x16, x17, x18, x19, x20, x21, x22, x23, x24, x25, x26, x27, x28, x29, x30, x31, x32, x33, x34, x35, x36, x37, x38, .pointer pv, .slice A n k] := by kernel_rfl
theorem built_mach (cs : List Value) (h : cs.length = 39) (pv A : Option Addr) (n k : Nat) : Tryd.prog.built 129 [(0, .agg cs.toArray), (1, .pointer pv), (2, .slice A n k)] = some (cs ++ [Value.pointer pv, Value.slice A n k]).toArray := by
  match cs, h with
  | x0 :: x1 :: x2 :: x3 :: x4 :: x5 :: x6 :: x7 :: x8 :: x9 :: x10 :: x11 :: x12 :: x13 :: x14 :: x15 :: x16 :: x17 :: x18 :: x19 :: x20 :: x21 :: x22 :: x23 :: x24 :: x25 :: x26 :: x27 :: x28 :: x29 :: x30 :: x31 :: x32 :: x33 :: x34 :: x35 :: x36 :: x37 :: x38 :: [], _ => exact built_lit x0 x1 x2 x3 x4 x5 x6 x7 x8 x9 x10 x11 x12 x13 x14 x15 x16 x17 x18 x19 x20 x21 x22 x23 x24 x25 x26 x27 x28 x29 x30 x31 x32 x33 x34 x35 x36 x37 x38 pv A n k
set_option maxRecDepth 20000 in
set_option maxHeartbeats 64000000 in
theorem right_any (w : World) (c : Mc) (ov : Value) (hl : c.regs.length = 32) (IA : Option Addr) (n ci : Nat) :
    Calls Tryd.prog 65 #[.agg (c.cells ov).toArray, .slice IA n ci] w fun e w' => e = .returned (.bool (rightB c n)) ∧ Below w.heap.size w w' := by
  obtain ⟨cs, hcs⟩ : ∃ cs, cs = (c.cells ov).toArray := ⟨_, rfl⟩
  obtain ⟨W, hW⟩ : ∃ W : World, W = w.alloc (.cells cs 76) := ⟨_, rfl⟩
  have hB : Below w.heap.size w W := by rw [hW]; exact (Below.refl _ _).alloc (Nat.le_refl _) _
  have h1 : W.heap[w.heap.size]? = some (.cells cs 76 (0, 0)) := by rw [hW]; exact heap_alloc_new w _
  have a1 : W.cell? ⟨w.heap.size, 1, none⟩ = some (.int .u64 ((c.reg 0 : Nat) : Int)) := (obj_cell h1 1).trans (by rw [hcs, List.getElem?_toArray]; exact cget_reg hl 0 (by omega))
  have a33 : W.cell? ⟨w.heap.size, 33, none⟩ = some (.int .i64 c.steps) := (obj_cell h1 33).trans (by rw [hcs, List.getElem?_toArray]; exact cget_tail hl 0 (by omega))
  have a35 : W.cell? ⟨w.heap.size, 35, none⟩ = some (.int .i64 c.code) := (obj_cell h1 35).trans (by rw [hcs, List.getElem?_toArray]; exact cget_tail hl 2 (by omega))
  have a36 : W.cell? ⟨w.heap.size, 36, none⟩ = some (.int .i64 c.fault) := (obj_cell h1 36).trans (by rw [hcs, List.getElem?_toArray]; exact cget_tail hl 3 (by omega))
  have a38 : W.cell? ⟨w.heap.size, 38, none⟩ = some (.int .i64 c.inn) := (obj_cell h1 38).trans (by rw [hcs, List.getElem?_toArray]; exact cget_tail hl 5 (by omega))
  rw [← hcs]
  unfold rightB
  generalize c.reg 0 = r at *
  generalize c.steps = st at *
  generalize c.code = co at *
  generalize c.fault = fa at *
  generalize c.inn = inn at *
  have HW := Lib.hid hW
  clear hW h1 hcs hl
  go_enter Tryd.func65, Tryd.ntmps65
  go_upto_region 1 with fail
  rw [← HW.out]
  cases f0 : (fa == 0)
  · cases f1 : (decide (30 ≤ fa))
    · cases t1 : ((r : Int) == 0)
      · go_wp2
        go_ret
        exact ⟨by simp [rightG, f0, f1, t1], hB⟩
      cases t2 : (decide (0 ≤ st))
      · go_wp2
        go_ret
        exact ⟨by simp [rightG, f0, f1, t1, t2], hB⟩
      cases t3 : (decide (0 ≤ co))
      · go_wp2
        go_ret
        exact ⟨by simp [rightG, f0, f1, t1, t2, t3], hB⟩
      cases t4 : (decide (co ≤ 255))
      · go_wp2
        go_ret
        exact ⟨by simp [rightG, f0, f1, t1, t2, t3, t4], hB⟩
      cases t5 : (decide (0 ≤ inn))
      · go_wp2
        go_ret
        exact ⟨by simp [rightG, f0, f1, t1, t2, t3, t4, t5], hB⟩
      cases t6 : (decide (inn ≤ (n : Int)))
      · go_wp2
        go_ret
        exact ⟨by simp [rightG, f0, f1, t1, t2, t3, t4, t5, t6], hB⟩
      go_wp2
      go_ret
      exact ⟨by simp [rightG, f0, f1, t1, t2, t3, t4, t5, t6], hB⟩
    · cases f2 : (decide (fa ≤ 34))
      · cases t1 : ((r : Int) == 0)
        · go_wp2
          go_ret
          exact ⟨by simp [rightG, f0, f1, f2, t1], hB⟩
        cases t2 : (decide (0 ≤ st))
        · go_wp2
          go_ret
          exact ⟨by simp [rightG, f0, f1, f2, t1, t2], hB⟩
        cases t3 : (decide (0 ≤ co))
        · go_wp2
          go_ret
          exact ⟨by simp [rightG, f0, f1, f2, t1, t2, t3], hB⟩
        cases t4 : (decide (co ≤ 255))
        · go_wp2
          go_ret
          exact ⟨by simp [rightG, f0, f1, f2, t1, t2, t3, t4], hB⟩
        cases t5 : (decide (0 ≤ inn))
        · go_wp2
          go_ret
          exact ⟨by simp [rightG, f0, f1, f2, t1, t2, t3, t4, t5], hB⟩
        cases t6 : (decide (inn ≤ (n : Int)))
        · go_wp2
          go_ret
          exact ⟨by simp [rightG, f0, f1, f2, t1, t2, t3, t4, t5, t6], hB⟩
        go_wp2
        go_ret
        exact ⟨by simp [rightG, f0, f1, f2, t1, t2, t3, t4, t5, t6], hB⟩
      · cases t1 : ((r : Int) == 0)
        · go_wp2
          go_ret
          exact ⟨by simp [rightG, f0, f1, f2, t1], hB⟩
        cases t2 : (decide (0 ≤ st))
        · go_wp2
          go_ret
          exact ⟨by simp [rightG, f0, f1, f2, t1, t2], hB⟩
        cases t3 : (decide (0 ≤ co))
        · go_wp2
          go_ret
          exact ⟨by simp [rightG, f0, f1, f2, t1, t2, t3], hB⟩
        cases t4 : (decide (co ≤ 255))
        · go_wp2
          go_ret
          exact ⟨by simp [rightG, f0, f1, f2, t1, t2, t3, t4], hB⟩
        cases t5 : (decide (0 ≤ inn))
        · go_wp2
          go_ret
          exact ⟨by simp [rightG, f0, f1, f2, t1, t2, t3, t4, t5], hB⟩
        cases t6 : (decide (inn ≤ (n : Int)))
        · go_wp2
          go_ret
          exact ⟨by simp [rightG, f0, f1, f2, t1, t2, t3, t4, t5, t6], hB⟩
        go_wp2
        go_ret
        exact ⟨by simp [rightG, f0, f1, f2, t1, t2, t3, t4, t5, t6], hB⟩
  · cases t1 : ((r : Int) == 0)
    · go_wp2
      go_ret
      exact ⟨by simp [rightG, f0, t1], hB⟩
    cases t2 : (decide (0 ≤ st))
    · go_wp2
      go_ret
      exact ⟨by simp [rightG, f0, t1, t2], hB⟩
    cases t3 : (decide (0 ≤ co))
    · go_wp2
      go_ret
      exact ⟨by simp [rightG, f0, t1, t2, t3], hB⟩
    cases t4 : (decide (co ≤ 255))
    · go_wp2
      go_ret
      exact ⟨by simp [rightG, f0, t1, t2, t3, t4], hB⟩
    cases t5 : (decide (0 ≤ inn))
    · go_wp2
      go_ret
      exact ⟨by simp [rightG, f0, t1, t2, t3, t4, t5], hB⟩
    cases t6 : (decide (inn ≤ (n : Int)))
    · go_wp2
      go_ret
      exact ⟨by simp [rightG, f0, t1, t2, t3, t4, t5, t6], hB⟩
    go_wp2
    go_ret
    exact ⟨by simp [rightG, f0, t1, t2, t3, t4, t5, t6], hB⟩
end Go.Proofs
