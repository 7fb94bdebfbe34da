/- patinalaw03.page, of the three words that small gives it. -/
import Derived.Test.YtemngapfnkokiaaGreatDoorCpu
import Derived.Test.YtemngapfnkokiaaGreatDoorBufs
import Derived.Test.YtemngapfnkokiaaGreatDoorRuns
import Derived.Laws.Tables
import Derived.RegionTactic
import Derived.Laws.CopyOwn
namespace Go.Pat
open Go Go.RowKit
def codeD : List UInt8 := [0x13, 0x05, 0x70, 0x00, 0x93, 0x08, 0xd0, 0x05, 0x73, 0, 0, 0]
/-- a page, of which so many bytes are written. -/
def cont (n : Nat) : List UInt8 := codeD.take n ++ List.replicate (4096 - n) 0
theorem cont_length (n : Nat) (h : n ≤ 12) : (cont n).length = 4096 := by
  simp only [cont, codeD, List.length_append, List.length_take, List.length_cons, List.length_nil, List.length_replicate]
  omega
theorem cont_zero : cont 0 = zeros := rfl
theorem cont_set (n : Nat) (h : n < 12) (c : UInt8) (hc : codeD[n]? = some c) : (cont n).set n c = cont (n + 1) := by
  have hl : (codeD.take n).length = n := by rw [List.length_take]; exact Nat.min_eq_left (Nat.le_of_lt h)
  unfold cont
  rw [List.set_append_right _ _ (by rw [hl]; exact Nat.le_refl n), hl, Nat.sub_self, show 4096 - n = (4096 - (n + 1)) + 1 by omega, List.replicate_succ, List.set_cons_zero, List.take_add_one, hc]
  simp
theorem made_bytes3 (n : Nat) : madeCells #[.int .u8 0] n = (bcells (List.replicate n 0)).toArray := by
  apply Array.ext
  · rw [size_madeCells]; simp [bcells]
  · intro i h1 h2
    simp [madeCells, bcells, bval, Nat.mod_one]
theorem zeroPage_list : zeroPage = (bcells zeros).toArray := by
  unfold zeroPage zeros
  exact made_bytes3 4096
end Go.Pat
namespace Go.Proofs
open Go Go.RowKit Go.Pat
theorem pgs_one (w : World) (b g : Nat) (perm : Int) (l : List UInt8) (base : Nat) (hb : w.heap[b]? = some (.cells #[.int .u64 (base : Int), .int .i64 perm, .slice (some ⟨g, 0, none⟩) l.length 4096] 54 (0, 0))) (hg : Buf w g l) (hbase : base < 18446744073709551616) (hl : l.length ≤ 140737488351232) (B : Nat) (hB : b < B ∧ g < B) :
    PgsAt B w (some ⟨b, 0, none⟩) [⟨base, perm, some ⟨g, 0, none⟩, 4096, l⟩] := by
  refine ⟨fun i hi => ?_, fun p hp => ?_, fun p hp => ?_, by simp⟩
  · obtain rfl : i = 0 := by simp at hi; omega
    exact ⟨b, 0, rfl, hB.1, (obj_cell hb 0).trans rfl, (obj_cell hb 1).trans rfl, (obj_cell hb 2).trans rfl⟩
  · simp only [List.mem_singleton] at hp
    subst hp
    exact hg.bs hB.2
  · simp only [List.mem_singleton] at hp
    subst hp
    exact ⟨hbase, hl⟩
/-- the walk. -/
theorem cont_next {w : World} {g n : Nat} (h : Buf w g (cont n)) (hn : n < 12) (c : UInt8) (hc : codeD[n]? = some c) : Buf (w.setCell ⟨g, n, none⟩ (.int .u8 (c.toNat : Int))) g (cont (n + 1)) := by
  rw [← cont_set n hn c hc]
  exact h.set n c
set_option maxRecDepth 20000 in
set_option maxHeartbeats 16000000 in
theorem page3_any (w : World) (g cap : Nat) (hg : w.heap[g]? = some (.cells #[.int .u32 7341331, .int .u32 97519763, .int .u32 115] 56 (0, 0))) :
    Calls Tryz.prog 16 #[.slice (some ⟨g, 0, none⟩) 3 cap] w fun e w' => ∃ b k : Nat, e = .returned (.slice (some ⟨b, 0, none⟩) 1 1) ∧ PgsAt w'.heap.size w' (some ⟨b, 0, none⟩) [⟨4096, 5, some ⟨k, 0, none⟩, 4096, cont 12⟩] ∧ Below w.heap.size w w' := by
  obtain ⟨Z, hZ⟩ : ∃ Z : Array Value, Z = zeroPage := ⟨_, rfl⟩
  have hmk : ∀ w, (Instr.makeSlice 25 (.int .i64 4096) (.int .i64 4096)).run Tryz.prog w = .ok (.slice (some ⟨w.heap.size, 0, none⟩) 4096 4096) (w.alloc (.cells Z 5)) := by rw [hZ]; exact run_makePage
  have hBz : Buf (w.alloc (.cells Z 5)) w.heap.size (cont 0) := by
    unfold Buf
    rw [cont_zero, ← zeroPage_list, ← hZ]
    exact heap_alloc_new w _
  have hgl := lt_of_block hg
  clear hZ
  have HG := Lib.hid hg
  clear hg
  go_enter Tryz.func16, Tryz.ntmps16
  go_wp2
  have hB0 : Below w.heap.size w (w.alloc (.cells Z 5)) := (Below.refl _ _).alloc (Nat.le_refl _) _
  go_loopw [10] (fun i wr => ∃ k : Nat, k ≤ 3 ∧ i = .int .i64 k ∧ Buf wr w.heap.size (cont (4 * k)) ∧ Below w.heap.size w wr) (fun i _ => 3 - (intOf i).toNat)
  case atStart => exact ⟨0, by omega, rfl, hBz, hB0⟩
  case round =>
    clear hBz hB0 hmk
    obtain ⟨k, hk, rfl, hbuf, hB⟩ := hrel
    have hk' : k = 0 ∨ k = 1 ∨ k = 2 ∨ k = 3 := by omega
    have hgr : wr.heap[g]? = some (.cells #[.int .u32 7341331, .int .u32 97519763, .int .u32 115] 56 (0, 0)) := (hB.block g hgl).trans HG.out
    rcases hk' with rfl | rfl | rfl | rfl
    · have hc : wr.cell? ⟨g, 0, none⟩ = some (.int .u32 7341331) := (obj_cell hgr 0).trans rfl
      clear hgr hk
      go_wp2
      go_loopw [6] (fun i wr => ∃ j : Nat, j ≤ 4 ∧ i = .int .i64 j ∧ Buf wr w.heap.size (cont (0 + j)) ∧ Below w.heap.size w wr) (fun i _ => 4 - (intOf i).toNat)
      case atStart => exact ⟨0, by omega, rfl, hbuf, hB⟩
      case round =>
        clear hbuf hB hc
        obtain ⟨j, hj, rfl, hbuf, hB⟩ := hrel
        have hj' : j = 0 ∨ j = 1 ∨ j = 2 ∨ j = 3 ∨ j = 4 := by omega
        clear hj
        rcases hj' with rfl | rfl | rfl | rfl | rfl
        · have fz := hbuf.frozen 0
          have hce := hbuf.cell 0 (by rw [cont_length _ (by omega)]; omega)
          go_wp2
          go_roundw
          case rel => exact ⟨1, by omega, rfl, cont_next hbuf (by omega) 19 rfl, hB.setCell (Nat.le_refl _) _⟩
          case measure => simp [intOf]
        · have fz := hbuf.frozen 1
          have hce := hbuf.cell 1 (by rw [cont_length _ (by omega)]; omega)
          go_wp2
          go_roundw
          case rel => exact ⟨2, by omega, rfl, cont_next hbuf (by omega) 5 rfl, hB.setCell (Nat.le_refl _) _⟩
          case measure => simp [intOf]
        · have fz := hbuf.frozen 2
          have hce := hbuf.cell 2 (by rw [cont_length _ (by omega)]; omega)
          go_wp2
          go_roundw
          case rel => exact ⟨3, by omega, rfl, cont_next hbuf (by omega) 112 rfl, hB.setCell (Nat.le_refl _) _⟩
          case measure => simp [intOf]
        · have fz := hbuf.frozen 3
          have hce := hbuf.cell 3 (by rw [cont_length _ (by omega)]; omega)
          go_wp2
          go_roundw
          case rel => exact ⟨4, by omega, rfl, cont_next hbuf (by omega) 0 rfl, hB.setCell (Nat.le_refl _) _⟩
          case measure => simp [intOf]
        · go_wp2
          go_roundw
          case rel => exact ⟨1, by omega, rfl, hbuf, hB⟩
          case measure => simp [intOf]
    · have hc : wr.cell? ⟨g, 1, none⟩ = some (.int .u32 97519763) := (obj_cell hgr 1).trans rfl
      clear hgr hk
      go_wp2
      go_loopw [6] (fun i wr => ∃ j : Nat, j ≤ 4 ∧ i = .int .i64 j ∧ Buf wr w.heap.size (cont (4 + j)) ∧ Below w.heap.size w wr) (fun i _ => 4 - (intOf i).toNat)
      case atStart => exact ⟨0, by omega, rfl, hbuf, hB⟩
      case round =>
        clear hbuf hB hc
        obtain ⟨j, hj, rfl, hbuf, hB⟩ := hrel
        have hj' : j = 0 ∨ j = 1 ∨ j = 2 ∨ j = 3 ∨ j = 4 := by omega
        clear hj
        rcases hj' with rfl | rfl | rfl | rfl | rfl
        · have fz := hbuf.frozen 4
          have hce := hbuf.cell 4 (by rw [cont_length _ (by omega)]; omega)
          go_wp2
          go_roundw
          case rel => exact ⟨1, by omega, rfl, cont_next hbuf (by omega) 147 rfl, hB.setCell (Nat.le_refl _) _⟩
          case measure => simp [intOf]
        · have fz := hbuf.frozen 5
          have hce := hbuf.cell 5 (by rw [cont_length _ (by omega)]; omega)
          go_wp2
          go_roundw
          case rel => exact ⟨2, by omega, rfl, cont_next hbuf (by omega) 8 rfl, hB.setCell (Nat.le_refl _) _⟩
          case measure => simp [intOf]
        · have fz := hbuf.frozen 6
          have hce := hbuf.cell 6 (by rw [cont_length _ (by omega)]; omega)
          go_wp2
          go_roundw
          case rel => exact ⟨3, by omega, rfl, cont_next hbuf (by omega) 208 rfl, hB.setCell (Nat.le_refl _) _⟩
          case measure => simp [intOf]
        · have fz := hbuf.frozen 7
          have hce := hbuf.cell 7 (by rw [cont_length _ (by omega)]; omega)
          go_wp2
          go_roundw
          case rel => exact ⟨4, by omega, rfl, cont_next hbuf (by omega) 5 rfl, hB.setCell (Nat.le_refl _) _⟩
          case measure => simp [intOf]
        · go_wp2
          go_roundw
          case rel => exact ⟨2, by omega, rfl, hbuf, hB⟩
          case measure => simp [intOf]
    · have hc : wr.cell? ⟨g, 2, none⟩ = some (.int .u32 115) := (obj_cell hgr 2).trans rfl
      clear hgr hk
      go_wp2
      go_loopw [6] (fun i wr => ∃ j : Nat, j ≤ 4 ∧ i = .int .i64 j ∧ Buf wr w.heap.size (cont (8 + j)) ∧ Below w.heap.size w wr) (fun i _ => 4 - (intOf i).toNat)
      case atStart => exact ⟨0, by omega, rfl, hbuf, hB⟩
      case round =>
        clear hbuf hB hc
        obtain ⟨j, hj, rfl, hbuf, hB⟩ := hrel
        have hj' : j = 0 ∨ j = 1 ∨ j = 2 ∨ j = 3 ∨ j = 4 := by omega
        clear hj
        rcases hj' with rfl | rfl | rfl | rfl | rfl
        · have fz := hbuf.frozen 8
          have hce := hbuf.cell 8 (by rw [cont_length _ (by omega)]; omega)
          go_wp2
          go_roundw
          case rel => exact ⟨1, by omega, rfl, cont_next hbuf (by omega) 115 rfl, hB.setCell (Nat.le_refl _) _⟩
          case measure => simp [intOf]
        · have fz := hbuf.frozen 9
          have hce := hbuf.cell 9 (by rw [cont_length _ (by omega)]; omega)
          go_wp2
          go_roundw
          case rel => exact ⟨2, by omega, rfl, cont_next hbuf (by omega) 0 rfl, hB.setCell (Nat.le_refl _) _⟩
          case measure => simp [intOf]
        · have fz := hbuf.frozen 10
          have hce := hbuf.cell 10 (by rw [cont_length _ (by omega)]; omega)
          go_wp2
          go_roundw
          case rel => exact ⟨3, by omega, rfl, cont_next hbuf (by omega) 0 rfl, hB.setCell (Nat.le_refl _) _⟩
          case measure => simp [intOf]
        · have fz := hbuf.frozen 11
          have hce := hbuf.cell 11 (by rw [cont_length _ (by omega)]; omega)
          go_wp2
          go_roundw
          case rel => exact ⟨4, by omega, rfl, cont_next hbuf (by omega) 0 rfl, hB.setCell (Nat.le_refl _) _⟩
          case measure => simp [intOf]
        · go_wp2
          go_roundw
          case rel => exact ⟨3, by omega, rfl, hbuf, hB⟩
          case measure => simp [intOf]
    · clear hgr
      go_wp2
      go_ret
      refine ⟨wr.heap.size, w.heap.size, rfl, ?_, hB.alloc hB.size _⟩
      have hbuf' : Buf (wr.alloc (.cells #[.int .u64 ((4096 : Nat) : Int), .int .i64 5, .slice (some ⟨w.heap.size, 0, none⟩) (cont 12).length 4096] 54)) w.heap.size (cont 12) := hbuf.below ((Below.refl _ _).alloc (Nat.le_refl _) _)
      have hl12 : (cont 12).length = 4096 := cont_length 12 (by omega)
      have hnew := heap_alloc_new wr (.cells #[.int .u64 ((4096 : Nat) : Int), .int .i64 5, .slice (some ⟨w.heap.size, 0, none⟩) (cont 12).length 4096] 54)
      have hP := pgs_one _ wr.heap.size w.heap.size 5 (cont 12) 4096 hnew hbuf' (by omega) (by omega) (wr.heap.size + 1) ⟨Nat.lt_succ_self _, Nat.lt_succ_of_lt hbuf.lt⟩
      rw [hl12] at hP
      rw [World.size_alloc]
      exact hP
end Go.Proofs

/- cpu.right. -/
namespace Go.Pat
open Go Go.RowKit
/-- is a state right. -/
def rightG (r : Nat) (st co inn fa : Int) (n : Nat) : Bool := ((r : Int) == 0) && (decide (0 ≤ st) && (decide (0 ≤ co) && (decide (co ≤ 255) && (decide (0 ≤ inn) && (decide (inn ≤ (n : Int)) && ((fa == 0) || (decide (30 ≤ fa) && decide (fa ≤ 34))))))))
def rightB (c : Mc) (n : Nat) : Bool := rightG (c.reg 0) c.steps c.code c.inn c.fault n
section
variable {c : Mc} {ov : Value}
theorem cget_pc : (c.cells ov)[0]? = some (.int .u64 (c.pc : Int)) := rfl
theorem cget_reg (h : c.regs.length = 32) (i : Nat) (hi : i < 32) : (c.cells ov)[1 + i]? = some (.int .u64 ((c.reg i : Nat) : Int)) := by
  have h1 := mget_reg (ov := ov) (pv := .int .i64 0) (iv := .int .i64 0) h i hi
  rw [mcells_app, List.getElem?_append_left (by rw [ccells_len h]; omega)] at h1
  exact h1
theorem cget_tail (h : c.regs.length = 32) (i : Nat) (hi : i < 6) : (c.cells ov)[33 + i]? = (c.tail ov)[i]? := by
  have h1 := mget_tail (ov := ov) (pv := .int .i64 0) (iv := .int .i64 0) h i
  rw [mcells_app, List.getElem?_append_left (by rw [ccells_len h]; omega), List.getElem?_append_left (by simp [Mc.tail]; omega)] at h1
  exact h1
theorem cset_out (h : c.regs.length = 32) (v : Value) : (c.cells ov).set 37 v = c.cells v := by
  have h1 := mset_out (ov := ov) (pv := .int .i64 0) (iv := .int .i64 0) h v c.out
  rw [mcells_app, mcells_app, List.set_append_left _ _ (by rw [ccells_len h]; omega)] at h1
  exact List.append_cancel_right h1
theorem cells_one (h : ov.oneCell' = true) : (c.cells ov).all (·.oneCell') = true := by
  have e1 : ∀ (k : IntKind) (n : Int), (Value.int k n).oneCell' = true := fun _ _ => rfl
  have e2 : ∀ b : Bool, (Value.bool b).oneCell' = true := fun _ => rfl
  simp [Mc.cells, Mc.tail, List.all_append, List.all_map, rV, h, e1, e2]
theorem cells_oneA (h : ov.oneCell' = true) : (c.cells ov).toArray.all (·.oneCell') = true := by
  rw [List.all_toArray]
  exact cells_one h
end
end Go.Pat
namespace Go.Proofs
open Go Go.RowKit Go.Pat
theorem step_loadM {P : Program} {ops : Array Oper} {o : Oper} {a : Act} {w : World} {K : Act → World → Prop} {Q : Exit → Act → World → Prop} {E : Prop} (hgd : o.guard = none) (ty : TypeId) (x : Operand) (ho : o.op = .load ty x)
    (b off : Nat) (hx : a.eval x = .pointer (some ⟨b, off, none⟩)) (cs : List Value) (d : TypeDesc) (hc : w.rangeAt b off cs) (hu : P.underlying ty = some d) (hd : d.isRow = true) (hi : (P.info? ty).map (·.size) = some cs.length)
    (h : K (a.put o.dst (.agg cs.toArray)) w) : if Region.wanted o (yielded ops a.tmps) = true then Oper.wp P o a w K Q else E := by
  have hw : Region.wanted o (yielded ops a.tmps) = true := by simp [Region.wanted, hgd]
  rw [if_pos hw]
  exact wp_load_mid ty x ho b off hx cs d hc hu hd hi h
theorem step_buildM {P : Program} {ops : Array Oper} {o : Oper} {a : Act} {w : World} {K : Act → World → Prop} {Q : Exit → Act → World → Prop} {E : Prop} (hgd : o.guard = none) (t : TypeId) (parts : Array (Nat × Operand)) (ho : o.op = .build t parts)
    (cs : Array Value) (hb : P.built t (parts.map fun (i, x) => (i, a.eval x)).toList = some cs)
    (h : K (a.put o.dst (.agg cs)) w) : if Region.wanted o (yielded ops a.tmps) = true then Oper.wp P o a w K Q else E := by
  have hw : Region.wanted o (yielded ops a.tmps) = true := by simp [Region.wanted, hgd]
  rw [if_pos hw]
  refine wp_build t parts ho (by rw [hb]; rfl) ?_
  rw [hb]
  exact h
theorem Tryz_sizeCpu2 : (Tryz.prog.info? 27).map (·.size) = some 39 := by kernel_rfl
theorem built_lit (x0 x1 x2 x3 x4 x5 x6 x7 x8 x9 x10 x11 x12 x13 x14 x15 x16 x17 x18 x19 x20 x21 x22 x23 x24 x25 x26 x27 x28 x29 x30 x31 x32 x33 x34 x35 x36 x37 x38 : Value) (pv A : Option Addr) (n k : Nat) : Tryz.prog.built 51 [(0, .agg #[x0, x1, x2, x3, x4, x5, x6, x7, x8, x9, x10, x11, x12, x13, x14, x15, x16, x17, x18, x19, x20, x21, x22, x23, x24, x25, x26, x27, x28, x29, x30, x31, x32, x33, x34, x35, x36, x37, x38]), (1, .pointer pv), (2, .slice A n k)] = some #[x0, x1, x2, x3, x4, x5, x6, x7, x8, x9, x10, x11, x12, x13, x14, x15, x16, x17, x18, x19, x20, x21, x22, x23, x24, x25, x26, x27, x28, x29, x30, x31, x32, x33, x34, x35, x36, x37, x38, .pointer pv, .slice A n k] := by kernel_rfl
theorem built_mach (cs : List Value) (h : cs.length = 39) (pv A : Option Addr) (n k : Nat) : Tryz.prog.built 51 [(0, .agg cs.toArray), (1, .pointer pv), (2, .slice A n k)] = some (cs ++ [Value.pointer pv, Value.slice A n k]).toArray := by
  match cs, h with
  | x0 :: x1 :: x2 :: x3 :: x4 :: x5 :: x6 :: x7 :: x8 :: x9 :: x10 :: x11 :: x12 :: x13 :: x14 :: x15 :: x16 :: x17 :: x18 :: x19 :: x20 :: x21 :: x22 :: x23 :: x24 :: x25 :: x26 :: x27 :: x28 :: x29 :: x30 :: x31 :: x32 :: x33 :: x34 :: x35 :: x36 :: x37 :: x38 :: [], _ => exact built_lit x0 x1 x2 x3 x4 x5 x6 x7 x8 x9 x10 x11 x12 x13 x14 x15 x16 x17 x18 x19 x20 x21 x22 x23 x24 x25 x26 x27 x28 x29 x30 x31 x32 x33 x34 x35 x36 x37 x38 pv A n k
set_option maxRecDepth 20000 in
set_option maxHeartbeats 64000000 in
theorem right_any (w : World) (c : Mc) (ov : Value) (hl : c.regs.length = 32) (IA : Option Addr) (n ci : Nat) :
    Calls Tryz.prog 13 #[.agg (c.cells ov).toArray, .slice IA n ci] w fun e w' => e = .returned (.bool (rightB c n)) ∧ Below w.heap.size w w' := by
  obtain ⟨cs, hcs⟩ : ∃ cs, cs = (c.cells ov).toArray := ⟨_, rfl⟩
  obtain ⟨W, hW⟩ : ∃ W : World, W = w.alloc (.cells cs 27) := ⟨_, rfl⟩
  have hB : Below w.heap.size w W := by rw [hW]; exact (Below.refl _ _).alloc (Nat.le_refl _) _
  have h1 : W.heap[w.heap.size]? = some (.cells cs 27 (0, 0)) := by rw [hW]; exact heap_alloc_new w _
  have a1 : W.cell? ⟨w.heap.size, 1, none⟩ = some (.int .u64 ((c.reg 0 : Nat) : Int)) := (obj_cell h1 1).trans (by rw [hcs, List.getElem?_toArray]; exact cget_reg hl 0 (by omega))
  have a33 : W.cell? ⟨w.heap.size, 33, none⟩ = some (.int .i64 c.steps) := (obj_cell h1 33).trans (by rw [hcs, List.getElem?_toArray]; exact cget_tail hl 0 (by omega))
  have a35 : W.cell? ⟨w.heap.size, 35, none⟩ = some (.int .i64 c.code) := (obj_cell h1 35).trans (by rw [hcs, List.getElem?_toArray]; exact cget_tail hl 2 (by omega))
  have a36 : W.cell? ⟨w.heap.size, 36, none⟩ = some (.int .i64 c.fault) := (obj_cell h1 36).trans (by rw [hcs, List.getElem?_toArray]; exact cget_tail hl 3 (by omega))
  have a38 : W.cell? ⟨w.heap.size, 38, none⟩ = some (.int .i64 c.inn) := (obj_cell h1 38).trans (by rw [hcs, List.getElem?_toArray]; exact cget_tail hl 5 (by omega))
  rw [← hcs]
  unfold rightB
  generalize c.reg 0 = r at *
  generalize c.steps = st at *
  generalize c.code = co at *
  generalize c.fault = fa at *
  generalize c.inn = inn at *
  have HW := Lib.hid hW
  clear hW h1 hcs hl
  go_enter Tryz.func13, Tryz.ntmps13
  go_upto_region 1 with fail
  rw [← HW.out]
  cases f0 : (fa == 0)
  · cases f1 : (decide (30 ≤ fa))
    · cases t1 : ((r : Int) == 0)
      · go_wp2
        go_ret
        exact ⟨by simp [rightG, f0, f1, t1], hB⟩
      cases t2 : (decide (0 ≤ st))
      · go_wp2
        go_ret
        exact ⟨by simp [rightG, f0, f1, t1, t2], hB⟩
      cases t3 : (decide (0 ≤ co))
      · go_wp2
        go_ret
        exact ⟨by simp [rightG, f0, f1, t1, t2, t3], hB⟩
      cases t4 : (decide (co ≤ 255))
      · go_wp2
        go_ret
        exact ⟨by simp [rightG, f0, f1, t1, t2, t3, t4], hB⟩
      cases t5 : (decide (0 ≤ inn))
      · go_wp2
        go_ret
        exact ⟨by simp [rightG, f0, f1, t1, t2, t3, t4, t5], hB⟩
      cases t6 : (decide (inn ≤ (n : Int)))
      · go_wp2
        go_ret
        exact ⟨by simp [rightG, f0, f1, t1, t2, t3, t4, t5, t6], hB⟩
      go_wp2
      go_ret
      exact ⟨by simp [rightG, f0, f1, t1, t2, t3, t4, t5, t6], hB⟩
    · cases f2 : (decide (fa ≤ 34))
      · cases t1 : ((r : Int) == 0)
        · go_wp2
          go_ret
          exact ⟨by simp [rightG, f0, f1, f2, t1], hB⟩
        cases t2 : (decide (0 ≤ st))
        · go_wp2
          go_ret
          exact ⟨by simp [rightG, f0, f1, f2, t1, t2], hB⟩
        cases t3 : (decide (0 ≤ co))
        · go_wp2
          go_ret
          exact ⟨by simp [rightG, f0, f1, f2, t1, t2, t3], hB⟩
        cases t4 : (decide (co ≤ 255))
        · go_wp2
          go_ret
          exact ⟨by simp [rightG, f0, f1, f2, t1, t2, t3, t4], hB⟩
        cases t5 : (decide (0 ≤ inn))
        · go_wp2
          go_ret
          exact ⟨by simp [rightG, f0, f1, f2, t1, t2, t3, t4, t5], hB⟩
        cases t6 : (decide (inn ≤ (n : Int)))
        · go_wp2
          go_ret
          exact ⟨by simp [rightG, f0, f1, f2, t1, t2, t3, t4, t5, t6], hB⟩
        go_wp2
        go_ret
        exact ⟨by simp [rightG, f0, f1, f2, t1, t2, t3, t4, t5, t6], hB⟩
      · cases t1 : ((r : Int) == 0)
        · go_wp2
          go_ret
          exact ⟨by simp [rightG, f0, f1, f2, t1], hB⟩
        cases t2 : (decide (0 ≤ st))
        · go_wp2
          go_ret
          exact ⟨by simp [rightG, f0, f1, f2, t1, t2], hB⟩
        cases t3 : (decide (0 ≤ co))
        · go_wp2
          go_ret
          exact ⟨by simp [rightG, f0, f1, f2, t1, t2, t3], hB⟩
        cases t4 : (decide (co ≤ 255))
        · go_wp2
          go_ret
          exact ⟨by simp [rightG, f0, f1, f2, t1, t2, t3, t4], hB⟩
        cases t5 : (decide (0 ≤ inn))
        · go_wp2
          go_ret
          exact ⟨by simp [rightG, f0, f1, f2, t1, t2, t3, t4, t5], hB⟩
        cases t6 : (decide (inn ≤ (n : Int)))
        · go_wp2
          go_ret
          exact ⟨by simp [rightG, f0, f1, f2, t1, t2, t3, t4, t5, t6], hB⟩
        go_wp2
        go_ret
        exact ⟨by simp [rightG, f0, f1, f2, t1, t2, t3, t4, t5, t6], hB⟩
  · cases t1 : ((r : Int) == 0)
    · go_wp2
      go_ret
      exact ⟨by simp [rightG, f0, t1], hB⟩
    cases t2 : (decide (0 ≤ st))
    · go_wp2
      go_ret
      exact ⟨by simp [rightG, f0, t1, t2], hB⟩
    cases t3 : (decide (0 ≤ co))
    · go_wp2
      go_ret
      exact ⟨by simp [rightG, f0, t1, t2, t3], hB⟩
    cases t4 : (decide (co ≤ 255))
    · go_wp2
      go_ret
      exact ⟨by simp [rightG, f0, t1, t2, t3, t4], hB⟩
    cases t5 : (decide (0 ≤ inn))
    · go_wp2
      go_ret
      exact ⟨by simp [rightG, f0, t1, t2, t3, t4, t5], hB⟩
    cases t6 : (decide (inn ≤ (n : Int)))
    · go_wp2
      go_ret
      exact ⟨by simp [rightG, f0, t1, t2, t3, t4, t5, t6], hB⟩
    go_wp2
    go_ret
    exact ⟨by simp [rightG, f0, t1, t2, t3, t4, t5, t6], hB⟩
end Go.Proofs

/- cpu.New. -/
namespace Go.Proofs
open Go Go.RowKit Go.Pat
theorem step_build3 {P : Program} {ops : Array Oper} {o : Oper} {a : Act} {w : World} {K : Act → World → Prop} {Q : Exit → Act → World → Prop} {E : Prop} (hgd : o.guard = none) (t : TypeId) (i0 i1 i2 : Nat) (x0 x1 x2 : Operand) (ho : o.op = .build t #[(i0, x0), (i1, x1), (i2, x2)])
    (v0 v1 v2 : Value) (h0 : a.eval x0 = v0) (h1 : a.eval x1 = v1) (h2 : a.eval x2 = v2) (cs : Array Value) (hb : P.built t [(i0, v0), (i1, v1), (i2, v2)] = some cs)
    (h : K (a.put o.dst (.agg cs)) w) : if Region.wanted o (yielded ops a.tmps) = true then Oper.wp P o a w K Q else E :=
  step_buildM hgd t _ ho cs (by subst h0 h1 h2; simpa using hb) h
/-- what New leaves. -/
def NewPost (w : World) (c : Mc) (ps : List PgIn) (inp : List UInt8) (e : Ending) (w' : World) : Prop :=
  Below w.heap.size w w' ∧
  ((rightB c inp.length = false ∧ e = .returned (.tuple #[.pointer none, .int .i64 1])) ∨
   (rightB c inp.length = true ∧ fromE (ps.map PgIn.pg) ≠ 0 ∧ e = .returned (.tuple #[.pointer none, .int .i64 (fromE (ps.map PgIn.pg))])) ∨
   (rightB c inp.length = true ∧ fromE (ps.map PgIn.pg) = 0 ∧ ∃ (m p mb : Nat) (ov iv : Value) (fs : List Fr), e = .returned (.tuple #[.pointer (some ⟨m, 0, none⟩), .int .i64 0]) ∧
    MachAt w' m p mb ov iv ⟨c, fs, inp⟩ ∧ fs.map Fr.pg = ps.map PgIn.pg ∧ (∀ k, mine m fs ov k → w.heap.size ≤ k) ∧ w.heap.size ≤ p ∧ w.heap.size ≤ mb ∧ ∀ g, iv.ownBlock = some g → w.heap.size ≤ g))
theorem rightB_inn {c : Mc} {n : Nat} (h : rightB c n = true) : 0 ≤ c.inn ∧ c.inn ≤ (n : Int) := by
  simp only [rightB, rightG, Bool.and_eq_true, decide_eq_true_eq] at h
  exact ⟨h.2.2.2.2.1, h.2.2.2.2.2.1⟩
set_option maxRecDepth 20000 in
set_option maxHeartbeats 16000000 in
theorem New_any3 (w : World) (c : Mc) (OA PA IA : Option Addr) (oc pc ic : Nat) (ps : List PgIn) (inp : List UInt8) (hl : c.regs.length = 32) (hsm : ∀ i, c.reg i < 18446744073709551616) (hpc : c.pc < 18446744073709551616)
    (hO : Bs w.heap.size w OA c.out) (hol : c.out.length ≤ 140737488355328) (hP : PgsAt w.heap.size w PA ps) (hI : Bs w.heap.size w IA inp) (hil : inp.length ≤ 140737488355328) :
    Calls Tryz.prog 4 #[.agg (c.cells (.slice OA c.out.length oc)).toArray, .slice PA ps.length pc, .slice IA inp.length ic] w (NewPost w c ps inp) := by
  obtain ⟨ov0, hov⟩ : ∃ ov0 : Value, ov0 = .slice OA c.out.length oc := ⟨_, rfl⟩
  rw [← hov]
  obtain ⟨W, hW⟩ : ∃ W : World, W = w.alloc (.cells (c.cells ov0).toArray 27) := ⟨_, rfl⟩
  have hB : Below w.heap.size w W := by rw [hW]; exact (Below.refl _ _).alloc (Nat.le_refl _) _
  have h1 : W.heap[w.heap.size]? = some (.cells (c.cells ov0).toArray 27 (0, 0)) := by rw [hW]; exact heap_alloc_new w _
  have hr0 : W.rangeAt w.heap.size 0 (c.cells ov0) := fun j v hv => (obj_cell h1 (0 + j)).trans (by rw [Nat.zero_add, List.getElem?_toArray]; exact hv)
  have hsz : (Tryz.prog.info? 27).map (·.size) = some (c.cells ov0).length := by rw [ccells_len hl]; exact Tryz_sizeCpu2
  have HC := Lib.hid (And.intro hr0 (And.intro hsz (And.intro h1 hov)))
  have HW := Lib.hid hW
  have hbs : w.heap.size < W.heap.size := by rw [hW, World.size_alloc]; omega
  have HR := Lib.hid (fun W2 => right_any W2 c ov0 hl IA inp.length ic)
  have HH := Lib.hid (And.intro hl (And.intro hsm (And.intro hpc (And.intro hO (And.intro hol (And.intro hP (And.intro hI hil)))))))
  clear hW hov h1 hr0 hsz hl hsm hpc hO hP hI
  go_enter Tryz.func4, Tryz.ntmps4
  go_upto_region 1 with fail
  rw [← HW.out]
  go_wp2_with (refine wpList_load_want (op := ⟨some 10, _, _, _, _, _⟩) rfl 27 (.tmp 3) rfl w.heap.size 0 rfl (c.cells ov0) _ HC.out.1 Tryz.underlying27 rfl HC.out.2.1 ?_)
  refine Calls.mono (HR.out _) ?_
  rintro e w1 ⟨rfl, hB1⟩
  cases hr : rightB c inp.length with
  | false =>
    go_wp2
    go_ret2
    exact ⟨hB.trans (hB1.mono hB.size), .inl ⟨hr, rfl⟩⟩
  | true =>
    go_wp2_with fail
    refine Calls.mono (From_all _ PA pc ps ((HH.out.2.2.2.2.2.1.below (hB.trans (hB1.mono hB.size))).mono (Nat.le_trans hB.size hB1.size))) ?_
    rintro e w2 h
    rcases h with ⟨h0, p, mb, fs, rfl, hfs, hM, hp, hmb, hfb, hB2⟩ | ⟨h0, rfl, hB2⟩
    · have hBw : Below w.heap.size w w2 := (hB.trans (hB1.mono hB.size)).trans (hB2.mono (Nat.le_trans hB.size hB1.size))
      have h12 : w2.heap[w.heap.size]? = some (.cells (c.cells ov0).toArray 27 (0, 0)) := by
        rw [hB2.block _ (Nat.lt_of_lt_of_le hbs hB1.size), hB1.block _ hbs]; exact HC.out.2.2.1
      have a37 : w2.cell? ⟨w.heap.size, 37, none⟩ = some (.slice OA c.out.length oc) := (obj_cell h12 37).trans (by rw [List.getElem?_toArray]; exact (cget_tail HH.out.1 4 (by omega)).trans (by rw [← HC.out.2.2.2]; rfl))
      have fz37 : w2.frozen? ⟨w.heap.size, 37, none⟩ = false := obj_frozen h12 37
      have HOB := Lib.hid (show Bs w2.heap.size w2 OA c.out from (HH.out.2.2.2.1.below hBw).mono hBw.size)
      have HIB := Lib.hid (show Bs w2.heap.size w2 IA inp from (HH.out.2.2.2.2.2.2.1.below hBw).mono hBw.size)
      go_wp2_with (at_builtin; refine wpList_appB _ rfl _ _ rfl w2.heap.size _ [] rfl (OwnB.nil _ _) w2.heap.size OA c.out.length oc c.out rfl rfl HOB.out (by rw [List.length_nil, Nat.zero_add]; exact hol) (Nat.le_refl _) ?hk)
      intro v' w3 hown hbel _
      obtain ⟨A4, c4, hv4, -⟩ := hown.form
      subst hv4
      have h23 := hbel w2 (Below.refl _ _)
      clear hbel
      have hws2 : w.heap.size < w2.heap.size := lt_of_block h12
      have h13 : w3.heap[w.heap.size]? = some (.cells (c.cells ov0).toArray 27 (0, 0)) := (h23.block _ hws2).trans h12
      have fz : w3.frozen? ⟨w.heap.size, 37, none⟩ = false := obj_frozen h13 37
      have ce : w3.cell? ⟨w.heap.size, 37, none⟩ = some ov0 := (obj_cell h13 37).trans (by rw [List.getElem?_toArray]; exact cget_tail HH.out.1 4 (by omega))
      clear h12 a37 fz37
      obtain ⟨W4, hW4⟩ : ∃ W4 : World, W4 = w3.setCell ⟨w.heap.size, 37, none⟩ (Value.slice A4 c.out.length c4) := ⟨_, rfl⟩
      have h14 : W4.heap[w.heap.size]? = some (.cells (c.cells (Value.slice A4 c.out.length c4)).toArray 27 (0, 0)) := by rw [hW4, obj_set h13 37 (Value.slice A4 c.out.length c4), List.setIfInBounds_toArray, cset_out HH.out.1]
      have hr4 : W4.rangeAt w.heap.size 0 (c.cells (Value.slice A4 c.out.length c4)) := fun j v hv => (obj_cell h14 (0 + j)).trans (by rw [Nat.zero_add, List.getElem?_toArray]; exact hv)
      have hsz4 : (Tryz.prog.info? 27).map (·.size) = some (c.cells (Value.slice A4 c.out.length c4)).length := by rw [ccells_len HH.out.1]; exact Tryz_sizeCpu2
      have HL := Lib.hid (And.intro hr4 hsz4)
      have hk4 : ∀ g, g ≠ w.heap.size → W4.heap[g]? = w3.heap[g]? := fun g hg => by rw [hW4]; exact Below.heap_setCell w3 ⟨w.heap.size, 37, none⟩ (Value.slice A4 c.out.length c4) g hg
      have hs4 : W4.heap.size = w3.heap.size := by rw [hW4]; simp [World.setCell]
      have hB4 : Below w.heap.size w W4 := by rw [hW4]; exact (hBw.trans (h23.mono hBw.size)).setCell (Nat.le_refl _) _
      have hle4 : w2.heap.size ≤ W4.heap.size := by rw [hs4]; exact h23.size
      have HI := Lib.hid (show Bs W4.heap.size W4 IA inp from (HH.out.2.2.2.2.2.2.1.below hB4).mono hB4.size)
      have hW12 : w.heap.size < w1.heap.size := Nat.lt_of_lt_of_le hbs hB1.size
      have HM := Lib.hid (fun A5 c5 => built_mach (c.cells (Value.slice A4 c.out.length c4)) (ccells_len HH.out.1) (some ⟨p, 0, none⟩) A5 inp.length c5)
      have hlt := hM.lt
      have hown4 : OwnB W4 w2.heap.size (Value.slice A4 c.out.length c4) c.out := hown.keep fun g hg => hk4 g (by have := (hown.block hg).1; omega)
      have hM4 : MemAt W4 p mb fs := hM.keep ((hk4 _ (by omega)).trans (h23.block _ hlt.1)) ((hk4 _ (by omega)).trans (h23.block _ hlt.2.1)) fun f hf => (hk4 _ (by have := hfb f hf; omega)).trans (h23.block _ (hlt.2.2 f hf))
      have HE := Lib.hid (show ∀ (w5 : World) (A5 : Option Addr) (c5 : Nat), OwnB w5 W4.heap.size (.slice A5 inp.length c5) inp → Below W4.heap.size W4 w5 →
          NewPost w c ps inp (.returned (.tuple #[.pointer (some ⟨w5.heap.size, 0, none⟩), .int .i64 0])) (w5.alloc (.cells (c.cells (Value.slice A4 c.out.length c4) ++ [Value.pointer (some ⟨p, 0, none⟩), Value.slice A5 inp.length c5]).toArray 51)) from ?he)
      case he =>
        intro w5 A5 c5 hown5 hB5
        have hB6 : Below W4.heap.size W4 (w5.alloc (.cells (c.cells (Value.slice A4 c.out.length c4) ++ [Value.pointer (some ⟨p, 0, none⟩), Value.slice A5 inp.length c5]).toArray 51)) := hB5.alloc hB5.size _
        have hb5 : ∀ g, Value.ownBlock (.slice A5 inp.length c5) = some g → W4.heap.size ≤ g := fun g hg => (hown5.block hg).1
        have hbv : ∀ g, (Value.slice A4 c.out.length c4).ownBlock = some g → w2.heap.size ≤ g ∧ g < W4.heap.size := fun g hg => by obtain ⟨h1, cur, h2⟩ := hown4.block hg; exact ⟨h1, lt_of_block h2⟩
        refine ⟨hB4.trans (hB6.mono hB4.size), .inr (.inr ⟨hr, h0, w5.heap.size, p, mb, (Value.slice A4 c.out.length c4), .slice A5 inp.length c5, fs, rfl, ?_, hfs, ?_, by omega, by omega, fun g hg => by have := hb5 g hg; have := hB4.size; omega⟩)⟩
        · refine ⟨?_, hM4.below hM4.lt hB6, HH.out.1, HH.out.2.1, HH.out.2.2.1, (hown4.below hB6).base (Nat.zero_le _), (hown5.alloc _).base (Nat.zero_le _), rightB_inn hr, fun g hg hm => ?_, fun g hg => ⟨fun hm => ?_, fun hv => ?_⟩⟩
          · rw [mcells_app]; exact heap_alloc_new w5 _
          · obtain ⟨f, hf, rfl⟩ := List.mem_map.1 hm
            have h1 := (hbv _ hg).1
            have h2 := hlt.2.2 f hf
            omega
          · obtain ⟨f, hf, rfl⟩ := List.mem_map.1 hm
            have h1 := hb5 _ hg
            have h2 := hlt.2.2 f hf
            omega
          · have h1 := hb5 _ hg
            have h2 := (hbv _ hv).2
            omega
        · intro k hk
          rcases hk with rfl | hk | hk
          · have h1 := hB5.size
            have h2 := hB4.size
            omega
          · obtain ⟨f, hf, rfl⟩ := List.mem_map.1 hk
            have := hfb f hf
            omega
          · have h1 := (hbv _ hk).1
            omega
      have HW4 := Lib.hid hW4
      clear hW4 hr4 hsz4 h13 h14 hk4 hown hown4 hM4 hM hB4 hs4 HOB HIB hfs h0 hr hlt hp hmb hfb h23
      go_upto_region 7 with fail
      rw [← HW4.out]
      refine wp_region_any (by kernel_rfl) ?_
      change wpAny _ _ _ _ _ _ _ (World.drew _)
      refine wpAny_take (i := 1) (v := .pointer (some ⟨p, 0, none⟩)) rfl (by kernel_rfl) (by kernel_rfl) (by kernel_rfl) (fun _ _ _ h => h) (Or.inl ⟨by rfl, ?_⟩) ?_
      · intro w; go_simp
      refine wpAny_take (i := 2) (v := .slice IA inp.length ic) rfl (by kernel_rfl) (by kernel_rfl) (by kernel_rfl) (fun _ _ _ h => h) (Or.inl ⟨by rfl, ?_⟩) ?_
      · intro w; go_simp
      refine wpAny_ready (rs := [0, 3]) (by kernel_rfl) (by simp) ?_
      refine AllReady.cons (o := ⟨some 26, _, _, _, _, _⟩) rfl (fun K hK => ?_) (AllReady.cons (o := ⟨some 29, _, _, _, _, _⟩) rfl (fun K hK => ?_) AllReady.nil)
      · refine step_loadM rfl 27 (.tmp 3) rfl w.heap.size 0 rfl (c.cells (Value.slice A4 c.out.length c4)) _ HL.out.1 Tryz.underlying27 rfl HL.out.2 ?_
        refine hK _ _ ?_
        clear hK K
        refine wpAny_ready (rs := [3]) (by kernel_rfl) (by simp) ?_
        refine AllReady.cons (o := ⟨some 29, _, _, _, _, _⟩) rfl (fun K hK => ?_) AllReady.nil
        refine step_appB rfl _ _ rfl W4.heap.size _ [] rfl (OwnB.nil _ _) W4.heap.size IA inp.length ic inp rfl rfl HI.out (by rw [List.length_nil, Nat.zero_add]; exact hil) (Nat.le_refl _) ?_
        intro v5 w5 hown5 hbel5 _
        rw [List.nil_append] at hown5
        refine hK _ _ ?_
        clear hK K
        have hB5 := hbel5 W4 (Below.refl _ _).drew
        obtain ⟨A5, c5, rfl, hbs5⟩ := hown5.form
        refine wpAny_ready (rs := [4]) (by kernel_rfl) (by simp) ?_
        refine AllReady.cons (o := ⟨some 30, _, _, _, _, _⟩) rfl (fun K hK => ?_) AllReady.nil
        refine step_build3 rfl 51 _ _ _ _ _ _ rfl _ _ _ rfl rfl rfl (c.cells (Value.slice A4 c.out.length c4) ++ [Value.pointer (some ⟨p, 0, none⟩), Value.slice A5 inp.length c5]).toArray (HM.out A5 c5) ?_
        refine hK _ _ ?_
        clear hK K
        refine wpAny_ready (rs := [5]) (by kernel_rfl) (by simp) ?_
        refine AllReady.cons (o := ⟨some 31, _, _, _, _, _⟩) rfl (fun K hK => ?_) AllReady.nil
        go_simp
        refine hK _ _ ?_
        clear hK K
        refine wpAny_ready (rs := [6]) (by kernel_rfl) (by simp) ?_
        refine AllReady.cons (o := ⟨some 6, _, _, _, _, _⟩) rfl (fun K hK => ?_) AllReady.nil
        go_simp
        refine hK _ _ ?_
        clear hK K
        refine wpAny_ready (rs := [7]) (by kernel_rfl) (by simp) ?_
        refine AllReady.cons (o := ⟨some 7, _, _, _, _, _⟩) rfl (fun K hK => ?_) AllReady.nil
        go_simp
        refine hK _ _ ?_
        clear hK K
        refine wpAny_done (by kernel_rfl) ?_ _
        go_wp2
        go_ret2
        exact HE.out w5 A5 c5 hown5 hB5
      · refine step_appB rfl _ _ rfl W4.heap.size _ [] rfl (OwnB.nil _ _) W4.heap.size IA inp.length ic inp rfl rfl HI.out (by rw [List.length_nil, Nat.zero_add]; exact hil) (Nat.le_refl _) ?_
        intro v5 w5 hown5 hbel5 _
        rw [List.nil_append] at hown5
        refine hK _ _ ?_
        clear hK K
        refine wpAny_ready (rs := [0]) (by kernel_rfl) (by simp) ?_
        refine AllReady.cons (o := ⟨some 26, _, _, _, _, _⟩) rfl (fun K hK => ?_) AllReady.nil
        have HL5 := Lib.hid (show w5.rangeAt w.heap.size 0 (c.cells (Value.slice A4 c.out.length c4)) from fun j v hv => ((hbel5 W4 (Below.refl _ _).drew).cell (p := ⟨w.heap.size, 0 + j, none⟩) (Nat.lt_of_lt_of_le hws2 hle4)).trans (HL.out.1 j v hv))
        refine step_loadM rfl 27 (.tmp 3) rfl w.heap.size 0 rfl (c.cells (Value.slice A4 c.out.length c4)) _ HL5.out Tryz.underlying27 rfl HL.out.2 ?_
        refine hK _ _ ?_
        clear hK K
        have hB5 := hbel5 W4 (Below.refl _ _).drew
        obtain ⟨A5, c5, rfl, hbs5⟩ := hown5.form
        refine wpAny_ready (rs := [4]) (by kernel_rfl) (by simp) ?_
        refine AllReady.cons (o := ⟨some 30, _, _, _, _, _⟩) rfl (fun K hK => ?_) AllReady.nil
        refine step_build3 rfl 51 _ _ _ _ _ _ rfl _ _ _ rfl rfl rfl (c.cells (Value.slice A4 c.out.length c4) ++ [Value.pointer (some ⟨p, 0, none⟩), Value.slice A5 inp.length c5]).toArray (HM.out A5 c5) ?_
        refine hK _ _ ?_
        clear hK K
        refine wpAny_ready (rs := [5]) (by kernel_rfl) (by simp) ?_
        refine AllReady.cons (o := ⟨some 31, _, _, _, _, _⟩) rfl (fun K hK => ?_) AllReady.nil
        go_simp
        refine hK _ _ ?_
        clear hK K
        refine wpAny_ready (rs := [6]) (by kernel_rfl) (by simp) ?_
        refine AllReady.cons (o := ⟨some 6, _, _, _, _, _⟩) rfl (fun K hK => ?_) AllReady.nil
        go_simp
        refine hK _ _ ?_
        clear hK K
        refine wpAny_ready (rs := [7]) (by kernel_rfl) (by simp) ?_
        refine AllReady.cons (o := ⟨some 7, _, _, _, _, _⟩) rfl (fun K hK => ?_) AllReady.nil
        go_simp
        refine hK _ _ ?_
        clear hK K
        refine wpAny_done (by kernel_rfl) ?_ _
        go_wp2
        go_ret2
        exact HE.out w5 A5 c5 hown5 hB5
    · have t0 : ((fromE (ps.map PgIn.pg)) != 0) = true := by simpa using h0
      go_wp2
      go_ret2
      exact ⟨(hB.trans (hB1.mono hB.size)).trans (hB2.mono (Nat.le_trans hB.size hB1.size)), .inr (.inl ⟨hr, h0, rfl⟩)⟩
end Go.Proofs

/- patinalaw03.CpuNil: the walk: a machine that is nil. -/
namespace Go.Proofs
open Go Go.RowKit Go.Pat

theorem Step_nil (w : World) : Calls Tryz.prog 19 #[.pointer none] w fun e w' => e = .returned (.int .i64 30) ∧ w' = w := by
  go_enter Tryz.func19, Tryz.ntmps19
  go_wp2
  go_ret
  exact ⟨rfl, rfl⟩
theorem Run_nil (n : Int) (w : World) : Calls Tryz.prog 7 #[.pointer none, .int .i64 n] w fun e w' => e = .returned (.int .i64 0) ∧ w' = w := by
  go_enter Tryz.func7, Tryz.ntmps7
  go_wp2
  go_loopw [5] (fun i wr => i = .int .i64 0 ∧ wr = w) (fun _ _ => 0)
  case atStart => exact ⟨rfl, rfl⟩
  case round =>
    obtain ⟨rfl, rfl⟩ := hrel
    go_wp2
    go_ret
    exact ⟨rfl, rfl⟩
theorem cPages_nil (w : World) : Calls Tryz.prog 12 #[.pointer none] w fun e w' => e = .returned (.slice none 0 0) ∧ w' = w := by
  go_enter Tryz.func12, Tryz.ntmps12
  go_wp2
  go_ret
  exact ⟨rfl, rfl⟩
def cpuZ : Array Value := #[.int .u64 0, .int .u64 0, .int .u64 0, .int .u64 0, .int .u64 0, .int .u64 0, .int .u64 0, .int .u64 0, .int .u64 0, .int .u64 0, .int .u64 0, .int .u64 0, .int .u64 0, .int .u64 0, .int .u64 0, .int .u64 0, .int .u64 0, .int .u64 0, .int .u64 0, .int .u64 0, .int .u64 0, .int .u64 0, .int .u64 0, .int .u64 0, .int .u64 0, .int .u64 0, .int .u64 0, .int .u64 0, .int .u64 0, .int .u64 0, .int .u64 0, .int .u64 0, .int .u64 0, .int .i64 0, .bool false, .int .i64 0, .int .i64 0, .slice none 0 0, .int .i64 0]
theorem cpuZ_V : cpuV 0 = .agg cpuZ := rfl
theorem cpuZ_one : cpuZ.all (·.oneCell') = true := by simp [cpuZ, Value.oneCell']
theorem Tryz_sizeCpu : (Tryz.prog.info? 27).map (·.size) = some 39 := by kernel_rfl
theorem cpu_load (b : Nat) (cs : Array Value) (W : World) (hb : W.heap[b]? = some (.cells cs 27 (0, 0))) (hn : cs.size = 39) : (loadVar 27 ⟨b, 0, none⟩).run Tryz.prog W = .ok (.agg cs) W := by
  have := run_loadVar_mid (P := Tryz.prog) W b 0 27 cs.toList _ (fun j v hv => by rw [Nat.zero_add, cell_of_row _ _ j cs _ (0, 0) hb]; simpa using hv) Tryz.underlying27 rfl (by rw [Array.length_toList, hn]; exact Tryz_sizeCpu)
  simpa using this
theorem results_cpu1 (fn : Func) (hf : fn.results = #[.cell 2 27]) (tmps : Array Value) (b : Nat) (cs : Array Value) (W : World) (h2 : tmps[2]?.getD undef = .pointer (some ⟨b, 0, none⟩))
    (hb : W.heap[b]? = some (.cells cs 27 (0, 0))) (hn : cs.size = 39) : (results fn tmps).run Tryz.prog W = .ok (.agg cs) W := by
  have hl := cpu_load b cs W hb hn
  unfold results
  rw [hf]
  simp [h2, asAddr, Sem.run_bind, Sem.run_pure, hl]
set_option maxRecDepth 20000 in
set_option maxHeartbeats 4000000 in
theorem State_nil (w : World) : Calls Tryz.prog 10 #[.pointer none] w fun e w' => e = .returned (cpuV 0) ∧ Below w.heap.size w w' := by
  obtain ⟨W, hW⟩ : ∃ W : World, W = w.alloc (.cells cpuZ 27) := ⟨_, rfl⟩
  have hB : Below w.heap.size w W := by rw [hW]; exact (Below.refl _ _).alloc (Nat.le_refl _) _
  have h1 : W.heap[w.heap.size]? = some (.cells cpuZ 27 (0, 0)) := by rw [hW]; exact heap_alloc_new w _
  unfold cpuZ at hW
  have HW := Lib.hid hW
  clear hW
  go_enter Tryz.func10, Tryz.ntmps10
  go_upto_region 1 with fail
  rw [← HW.out]
  go_wp2_with (refine wpList_store_row (o := ⟨none, Op.store 27 (.tmp 2) (.tmp 6), _, _, _, _⟩) rfl 27 (.tmp 2) (.tmp 6) rfl w.heap.size cpuZ rfl rfl 27 _ h1 Tryz_sizeCpu rfl cpuZ_one ?_)
  have hX := setRow_heap W w.heap.size _ cpuZ _ _ h1
  refine bodyPost_ret (v := .agg cpuZ) (results_cpu1 _ rfl _ w.heap.size cpuZ _ rfl hX rfl) rfl ?_
  exact ⟨by rw [cpuZ_V], below_setRow hB (Nat.le_refl _) _⟩
end Go.Proofs

/- (*cpu.Machine).State: a copy of the state. -/
namespace Go.Proofs
open Go Go.RowKit Go.Pat
theorem mcells_range {w : World} {m p mb : Nat} {ov iv : Value} {s : Ms} (h : MachAt w m p mb ov iv s) : w.rangeAt m 0 (s.c.cells ov) := fun j v hv => by
  refine h.cell (0 + j) v ?_
  rw [Nat.zero_add, mcells_app, List.getElem?_append_left]
  · exact hv
  · rcases Nat.lt_or_ge j (s.c.cells ov).length with h | h
    · exact h
    · rw [List.getElem?_eq_none h] at hv; cases hv
theorem OwnB.one {w : World} {base : Nat} {v : Value} {l : List UInt8} (h : OwnB w base v l) : v.oneCell' = true := by
  obtain ⟨A, c, rfl, -⟩ := h.form
  rfl
def StateTo (s : Ms) (w : World) (e : Ending) (w' : World) : Prop := ∃ ov', e = .returned (.agg (s.c.cells ov').toArray) ∧ OwnB w' w.heap.size ov' s.c.out ∧ Below w.heap.size w w'
set_option maxRecDepth 20000 in
set_option maxHeartbeats 16000000 in
theorem State_any (w : World) (m p mb : Nat) (ov iv : Value) (s : Ms) (hM : MachAt w m p mb ov iv s) (hol : s.c.out.length ≤ 140737488355328) :
    Calls Tryz.prog 10 #[.pointer (some ⟨m, 0, none⟩)] w (StateTo s w) := by
  obtain ⟨OA, oc, hov, hbs⟩ := hM.out.form
  have hone : ov.oneCell' = true := hM.out.one
  obtain ⟨W, hW⟩ : ∃ W : World, W = w.alloc (.cells cpuZ 27) := ⟨_, rfl⟩
  obtain ⟨W2, hW2⟩ : ∃ W2 : World, W2 = W.alloc (.cells cpuZ 27) := ⟨_, rfl⟩
  obtain ⟨W3, hW3⟩ : ∃ W3 : World, W3 = W2.setRow W.heap.size (s.c.cells ov).toArray := ⟨_, rfl⟩
  have hB : Below w.heap.size w W := by rw [hW]; exact (Below.refl _ _).alloc (Nat.le_refl _) _
  have hB2 : Below w.heap.size w W2 := by rw [hW2]; exact hB.alloc hB.size _
  have hB3 : Below w.heap.size w W3 := by rw [hW3]; exact below_setRow hB2 hB.size _
  have hsz : (s.c.cells ov).toArray.size = 39 := by rw [List.size_toArray, ccells_len hM.len]
  have h2 : W2.heap[W.heap.size]? = some (.cells cpuZ 27 (0, 0)) := by rw [hW2]; exact heap_alloc_new W _
  have h20 : W2.heap[w.heap.size]? = some (.cells cpuZ 27 (0, 0)) := by rw [hW2, hW]; exact obj_alloc (heap_alloc_new w _)
  have hne : w.heap.size ≠ W.heap.size := by rw [hW, World.size_alloc]; omega
  have h3 : W3.heap[W.heap.size]? = some (.cells (s.c.cells ov).toArray 27 (0, 0)) := by rw [hW3]; exact setRow_heap W2 _ cpuZ _ _ _ h2
  have h30 : W3.heap[w.heap.size]? = some (.cells cpuZ 27 (0, 0)) := by rw [hW3, setRow_other W2 _ _ _ hne]; exact h20
  have a37 : W3.cell? ⟨W.heap.size, 37, none⟩ = some ov := (obj_cell h3 37).trans (by rw [List.getElem?_toArray]; exact cget_tail hM.len 4 (by omega))
  have hr := mcells_range (hM.below hB)
  have hszp : (Tryz.prog.info? 27).map (·.size) = some (s.c.cells ov).length := by rw [ccells_len hM.len]; exact Tryz_sizeCpu2
  have hszq : (Tryz.prog.info? 27).map (·.size) = some (s.c.cells ov).toArray.size := by rw [hsz]; exact Tryz_sizeCpu2
  have hold : cpuZ.size = (s.c.cells ov).toArray.size := by rw [hsz]; rfl
  have hlen := hM.len
  have HK := Lib.hid (And.intro hr (And.intro hszp (And.intro hszq (And.intro hold (And.intro h2 (And.intro h3 (And.intro h30 (And.intro (cells_oneA (c := s.c) hone) hbs))))))))
  unfold cpuZ at hW hW2
  have HW := Lib.hid hW
  have HW2 := Lib.hid hW2
  have HW3 := Lib.hid hW3
  have HO := Lib.hid hov
  have hWs : w.heap.size < W.heap.size := by rw [hW, World.size_alloc]; omega
  have hW3s : W.heap.size < W3.heap.size := lt_of_block h3
  clear hW hW2 hW3 hr hszp hszq hold h2 h3 h30 h20 hov hbs hone
  go_enter Tryz.func10, Tryz.ntmps10
  go_upto_region 3 with fail
  rw [← HW.out]
  go_wp2_with (first
    | refine wpList_load_want (op := ⟨some 10, _, _, _, _, _⟩) rfl 27 (.tmp 9) rfl m 0 rfl (s.c.cells ov) _ HK.out.1 Tryz.underlying27 rfl HK.out.2.1 ?_
    | (rw [← HW2.out]; refine wpList_store_row (o := ⟨none, Op.store 27 (.tmp 3) (.tmp 10), _, _, _, _⟩) rfl 27 (.tmp 3) (.tmp 10) rfl W.heap.size (s.c.cells ov).toArray rfl rfl 27 _ HK.out.2.2.2.2.1 HK.out.2.2.1 HK.out.2.2.2.1 HK.out.2.2.2.2.2.2.2.1 ?_; rw [← HW3.out])
    | (at_builtin; refine wpList_appB _ rfl _ _ rfl W3.heap.size _ [] rfl (OwnB.nil _ _) W3.heap.size OA s.c.out.length oc s.c.out HO.out rfl ?hr (by rw [List.length_nil, Nat.zero_add]; exact hol) (Nat.le_refl _) ?hk))
  case hr => exact (HK.out.2.2.2.2.2.2.2.2.below hB3).mono hB3.size
  case hk =>
    intro v' w4 hown hbel _
    obtain ⟨A4, c4, hv4, -⟩ := hown.form
    subst hv4
    have h4 := hbel W3 (Below.refl _ _)
    clear hbel
    have h43 : w4.heap[W.heap.size]? = some (.cells (s.c.cells ov).toArray 27 (0, 0)) := (h4.block _ hW3s).trans HK.out.2.2.2.2.2.1
    have h40 : w4.heap[w.heap.size]? = some (.cells cpuZ 27 (0, 0)) := (h4.block _ (Nat.lt_trans hWs hW3s)).trans HK.out.2.2.2.2.2.2.1
    have ce : w4.cell? ⟨W.heap.size, 37, none⟩ = some ov := (obj_cell h43 37).trans (by rw [List.getElem?_toArray]; exact cget_tail hlen 4 (by omega))
    have fz : w4.frozen? ⟨W.heap.size, 37, none⟩ = false := obj_frozen h43 37
    obtain ⟨W5, hW5⟩ : ∃ W5 : World, W5 = w4.setCell ⟨W.heap.size, 37, none⟩ (Value.slice A4 s.c.out.length c4) := ⟨_, rfl⟩
    have h53 : W5.heap[W.heap.size]? = some (.cells (s.c.cells (Value.slice A4 s.c.out.length c4)).toArray 27 (0, 0)) := by
      rw [hW5, obj_set h43 37 (Value.slice A4 s.c.out.length c4), List.setIfInBounds_toArray, cset_out hlen]
    have h50 : W5.heap[w.heap.size]? = some (.cells cpuZ 27 (0, 0)) := by rw [hW5, Below.heap_setCell w4 ⟨W.heap.size, 37, none⟩ (Value.slice A4 s.c.out.length c4) _ (Nat.ne_of_lt hWs)]; exact h40
    have hr5 : W5.rangeAt W.heap.size 0 (s.c.cells (Value.slice A4 s.c.out.length c4)) := fun j v hv => (obj_cell h53 (0 + j)).trans (by rw [Nat.zero_add, List.getElem?_toArray]; exact hv)
    have hB5 : Below w.heap.size w W5 := by rw [hW5]; exact (hB3.trans (h4.mono hB3.size)).setCell (Nat.le_of_lt hWs) _
    have hsz5 : (s.c.cells (Value.slice A4 s.c.out.length c4)).toArray.size = 39 := by rw [List.size_toArray, ccells_len hlen]
    have hszp5 : (Tryz.prog.info? 27).map (·.size) = some (s.c.cells (Value.slice A4 s.c.out.length c4)).length := by rw [ccells_len hlen]; exact Tryz_sizeCpu2
    have hszq5 : (Tryz.prog.info? 27).map (·.size) = some (s.c.cells (Value.slice A4 s.c.out.length c4)).toArray.size := by rw [hsz5]; exact Tryz_sizeCpu2
    have hold5 : cpuZ.size = (s.c.cells (Value.slice A4 s.c.out.length c4)).toArray.size := by rw [hsz5]; rfl
    have hone5 := cells_oneA (c := s.c) hown.one
    have HK5 := Lib.hid (And.intro hr5 (And.intro hszp5 (And.intro hszq5 (And.intro hold5 (And.intro h50 hone5)))))
    have HW5 := Lib.hid hW5
    have hown5 : OwnB W5 w.heap.size (Value.slice A4 s.c.out.length c4) s.c.out := by
      rw [hW5]
      refine OwnB.base (OwnB.keep hown fun g hg => Below.heap_setCell w4 ⟨W.heap.size, 37, none⟩ (Value.slice A4 s.c.out.length c4) g ?_) (Nat.le_of_lt (Nat.lt_trans hWs hW3s))
      have := (hown.block hg).1
      simp only; omega
    clear hW5 hr5 hszp5 hszq5 hold5 hone5
    go_wp2_with (first
      | (rw [← HW5.out]; refine wpList_load_want (op := ⟨some 15, _, _, _, _, _⟩) rfl 27 (.tmp 3) rfl W.heap.size 0 rfl (s.c.cells (Value.slice A4 s.c.out.length c4)) _ HK5.out.1 Tryz.underlying27 rfl HK5.out.2.1 ?_)
      | refine wpList_store_row (o := ⟨none, Op.store 27 (.tmp 2) (.tmp 15), _, _, _, _⟩) rfl 27 (.tmp 2) (.tmp 15) rfl w.heap.size (s.c.cells (Value.slice A4 s.c.out.length c4)).toArray rfl rfl 27 _ HK5.out.2.2.2.2.1 HK5.out.2.2.1 HK5.out.2.2.2.1 HK5.out.2.2.2.2.2 ?_)
    have hX := setRow_heap W5 w.heap.size cpuZ (s.c.cells (Value.slice A4 s.c.out.length c4)).toArray _ _ h50
    refine bodyPost_ret (v := .agg (s.c.cells (Value.slice A4 s.c.out.length c4)).toArray) (results_cpu1 _ rfl _ w.heap.size (s.c.cells (Value.slice A4 s.c.out.length c4)).toArray _ rfl hX hsz5) rfl ?_
    refine ⟨(Value.slice A4 s.c.out.length c4), rfl, OwnB.keep hown5 fun g hg => ?_, below_setRow hB5 (Nat.le_refl _) _⟩
    refine setRow_other W5 _ _ _ ?_
    have := (hown.block hg).1
    omega
end Go.Proofs

/- patinalaw03.small: a program that ends with 7. -/
namespace Go.Pat
open Go Go.RowKit
def c0 : Mc := ⟨4096, List.replicate 32 0, 0, false, 0, 0, [], 0⟩
def c9 : Mc := ⟨4108, [0, 0, 0, 0, 0, 0, 0, 0, 0, 0, 7, 0, 0, 0, 0, 0, 0, 93, 0, 0, 0, 0, 0, 0, 0, 0, 0, 0, 0, 0, 0, 0], 3, true, 7, 0, [], 0⟩
theorem small_run (b c : Nat) : runM 9 ⟨c0, [⟨4096, 5, b, c, cont 12⟩], []⟩ = (3, ⟨c9, [⟨4096, 5, b, c, cont 12⟩], []⟩) := by kernel_rfl
theorem c0_reg (i : Nat) : c0.reg i < 18446744073709551616 := by
  show (List.replicate 32 0).getD i 0 < _
  rw [List.getD_eq_getElem?_getD, List.getElem?_replicate]
  split <;> decide
theorem c0_right : rightB c0 0 = true := by decide
theorem small_from : fromE [⟨4096, 5, cont 12⟩] = 0 := by kernel_rfl
theorem fs_one {fs : List Fr} {a : Nat} {p : Int} {l : List UInt8} (h : fs.map Fr.pg = [⟨a, p, l⟩]) : ∃ b c, fs = [⟨a, p, b, c, l⟩] := by
  match fs, h with
  | [f], h =>
    obtain ⟨a1, p1, b1, c1, l1⟩ := f
    simp only [List.map_cons, List.map_nil, Fr.pg, List.cons.injEq, Pgd.mk.injEq, and_true] at h
    obtain ⟨rfl, rfl, rfl⟩ := h
    exact ⟨b1, c1, rfl⟩
end Go.Pat
namespace Go.Proofs
open Go Go.RowKit Go.Pat
theorem rvRows_below {w w' : World} (h : RvRows w) (hb : Below w.heap.size w w') : RvRows w' :=
  ⟨Nat.lt_of_lt_of_le h.1 hb.size, fun op ho j v hv => (World.cell?_of_block (hb.block _ h.1)).trans (h.2 op ho j v hv)⟩
theorem below_kept {B : Nat} {S : Nat → Prop} {w0 w w' : World} (hb : Below B w0 w) (hk : KeptBut S w w') (hs : ∀ k, S k → B ≤ k) (hB : B ≤ w.heap.size) : Below B w0 w' :=
  hb.trans ⟨hk.os, hk.tape, hk.output, hk.size, fun k h => hk.block k (Nat.lt_of_lt_of_le h hB) (fun hm => absurd (hs k hm) (by omega))⟩
theorem bs_nil {B : Nat} {w : World} {A : Option Addr} : Bs B w A [] := fun i hi => by rw [bcells_length] at hi; exact absurd hi (Nat.not_lt_zero _)
set_option maxRecDepth 20000 in
set_option maxHeartbeats 16000000 in
theorem small3_any (w : World) (hR : RvRows w) : Calls Tryz.prog 6 #[] w fun e w' => e = .returned (.bool true) ∧ Below w.heap.size w w' := by
  have halu : aluV 35 2 3 = 5 := by kernel_rfl
  have HA := Lib.hid halu
  have HR := Lib.hid hR
  clear halu hR
  go_enter Tryz.func6, Tryz.ntmps6
  go_wp2_with fail
  refine Calls.mono (page3_any _ _ 3 (heap_alloc_new w _)) ?_
  rintro e w1 ⟨b, k, rfl, hP, hB1⟩
  have hB01 : Below w.heap.size w w1 := ((Below.refl _ _).alloc (Nat.le_refl _) _).trans (hB1.mono (by rw [World.size_alloc]; omega))
  clear hB1
  go_wp2_with fail
  refine Calls.mono (New_any3 w1 c0 none (some ⟨b, 0, none⟩) none 0 1 0 [⟨4096, 5, some ⟨k, 0, none⟩, 4096, cont 12⟩] [] rfl c0_reg (by decide) bs_nil (by decide) hP bs_nil (by decide)) ?_
  rintro e w2 ⟨hB2, h⟩
  rcases h with ⟨h, -⟩ | ⟨-, h, -⟩ | ⟨-, -, m, p, mb, ov, iv, fs, rfl, hM, hfs, hmine, -⟩
  · exact absurd (h.symm.trans c0_right) (by decide)
  · exact absurd small_from h
  obtain ⟨fb, fc, rfl⟩ := fs_one hfs
  have hB02 : Below w.heap.size w w2 := hB01.trans (hB2.mono hB01.size)
  have hR2 := rvRows_below HR.out hB02
  have hsep : ¬ mine m [⟨4096, 5, fb, fc, cont 12⟩] ov 0 := fun h => by
    have h1 := hmine _ h
    have h2 := HR.out.1
    have h3 := hB01.size
    omega
  have HRun := Lib.hid (Run_any w2 m p mb ov iv _ 9 hM hR2 hsep (by omega) (by show 0 + 9 ≤ _; omega))
  have HB := Lib.hid (fun (w3 : World) (hK : KeptBut (mine m [⟨4096, 5, fb, fc, cont 12⟩] ov) w2 w3) => below_kept hB02 hK (fun k h => Nat.le_trans hB01.size (hmine k h)) hB02.size)
  clear hM hsep hR2 hfs hmine hP hB2 hB01 hB02
  go_wp2_with fail
  refine Calls.mono HRun.out ?_
  rintro e w3 ⟨rfl, ov', hM3, hK3, -, -⟩
  have hB3 := HB.out w3 hK3
  rw [small_run] at hM3
  rw [small_run]
  have HSt := Lib.hid (State_any w3 m p mb ov' iv _ hM3 (show (0 : Nat) ≤ 140737488355328 by omega))
  clear hM3 hK3 HB HRun
  go_wp2_with fail
  refine Calls.mono HSt.out ?_
  rintro e w4 ⟨ov2, rfl, hO4, hB4⟩
  have hB04 : Below w.heap.size w w4 := hB3.trans (hB4.mono hB3.size)
  obtain ⟨cs, hcs⟩ : ∃ cs, cs = (c9.cells ov2).toArray := ⟨_, rfl⟩
  have hone : cs.all (·.oneCell') = true := by rw [hcs]; exact cells_oneA hO4.one
  have hsz : cs.size = 39 := by rw [hcs]; rfl
  have hin : (Tryz.prog.info? 27).map (·.size) = some cs.size := by rw [hsz]; exact Tryz_sizeCpu2
  have hold : cpuZ.size = cs.size := by rw [hsz]; rfl
  obtain ⟨W, hW⟩ : ∃ W : World, W = w4.alloc (.cells cpuZ 27) := ⟨_, rfl⟩
  have hW0 : W.heap[w4.heap.size]? = some (.cells cpuZ 27 (0, 0)) := by rw [hW]; exact heap_alloc_new w4 _
  obtain ⟨W5, hW5⟩ : ∃ W5 : World, W5 = W.setRow w4.heap.size cs := ⟨_, rfl⟩
  have h5 : W5.heap[w4.heap.size]? = some (.cells cs 27 (0, 0)) := by rw [hW5]; exact setRow_heap W _ cpuZ _ _ _ hW0
  have hB5 : Below w.heap.size w W5 := by rw [hW5, hW]; exact below_setRow (hB04.alloc hB04.size _) hB04.size _
  have a33 : W5.cell? ⟨w4.heap.size, 33, none⟩ = some (.int .i64 3) := (obj_cell h5 33).trans (by rw [hcs]; rfl)
  have a34 : W5.cell? ⟨w4.heap.size, 34, none⟩ = some (.bool true) := (obj_cell h5 34).trans (by rw [hcs]; rfl)
  have a35 : W5.cell? ⟨w4.heap.size, 35, none⟩ = some (.int .i64 7) := (obj_cell h5 35).trans (by rw [hcs]; rfl)
  rw [← hcs]
  unfold cpuZ at hW
  have HW := Lib.hid hW
  have HW5 := Lib.hid hW5
  have HK := Lib.hid (And.intro hW0 (And.intro hin (And.intro hold hone)))
  clear hW hW5 hW0 hin hold hone hcs h5 hsz hO4
  go_wp2_with (first
    | (rw [← HW.out]; refine wpList_store_row (o := ⟨none, Op.store 27 (.tmp 4) (.tmp 23), _, _, _, _⟩) rfl 27 (.tmp 4) (.tmp 23) rfl w4.heap.size cs rfl rfl 27 _ HK.out.1 HK.out.2.1 HK.out.2.2.1 HK.out.2.2.2 ?_; rw [← HW5.out])
    | (go_at_call 17; refine (cAlu_in 35 2 3 (by decide) (by decide) (by decide) (by decide) _).mono ?_; rw [HA.out]; rintro e w' ⟨rfl, rfl⟩))
  go_ret
  exact ⟨rfl, hB5⟩
end Go.Proofs

/- patinaplain.Cpu of states that are the same. -/
namespace Go.Proofs
open Go Go.RowKit Go.Pat
theorem Tryz_info_u64 : (Tryz.prog.info? 22).map (fun i => (i.zero, i.size, i.bytes)) = some (some (.int .u64 0), 1, 8) := by kernel_rfl
theorem regs_items (l : List Nat) (W : World) : ∀ js : List Nat, (∀ j ∈ js, j < l.length) → (Op.eqItems 9999 22 1 (l.map rV).toArray (l.map rV).toArray js).run Tryz.prog W = .ok true W
  | [], _ => by simp [Op.eqItems]
  | j :: js, h => by
    have hj : j < l.length := h j (by simp)
    have px : (part 22 (l.map rV).toArray (j * 1)).run Tryz.prog W = .ok (rV l[j]) W := by
      simp [part, isAgg, run_underlying Tryz.underlying22, hj]
    have pe : (Op.equalIn 9999 22 (rV l[j]) (rV l[j])).run Tryz.prog W = .ok true W := by
      have := run_equalIn_int (P := Tryz.prog) W 9998 22 .u64 .u64 ((l[j] : Nat) : Int) ((l[j] : Nat) : Int) Tryz.underlying22
      rw [beq_self_eq_true] at this
      exact this
    simp only [Op.eqItems, Sem.run_bind, px, pe, Result.andThen_ok]
    exact regs_items l W js fun k hk => h k (by simp [hk])
theorem regs_eq (l : List Nat) (h : l.length = 32) (W : World) : (Op.equalIn 10000 23 (.agg (l.map rV).toArray) (.agg (l.map rV).toArray)).run Tryz.prog W = .ok true W := by
  obtain ⟨i, hi, -⟩ := info_parts Tryz_info_u64
  rw [run_equalIn_array (w := W) 9999 (l.map rV).toArray (l.map rV).toArray Tryz.underlying23 hi, show Tryz.prog.cellsOf 22 = 1 by kernel_rfl]
  exact regs_items l W _ fun j hj => by rw [h]; exact List.mem_range.1 hj
theorem cregs_at {c : Mc} {ov : Value} (hl : c.regs.length = 32) (j : Nat) (v : Value) (hv : (c.regs.map rV)[j]? = some v) : (c.cells ov)[1 + j]? = some v := by
  have hj : j < 32 := by
    rcases Nat.lt_or_ge j 32 with h | h
    · exact h
    · rw [List.getElem?_eq_none (by simp [hl]; exact h)] at hv; cases hv
  rw [Nat.add_comm, Mc.cells, List.getElem?_cons_succ, List.getElem?_append_left (by simp [hl]; exact hj)]
  exact hv
set_option maxRecDepth 20000 in
set_option maxHeartbeats 8000000 in
theorem pCpu_eq (w : World) (c : Mc) (A1 A2 : Option Addr) (k1 k2 : Nat) (hl : c.regs.length = 32) (h1 : Bs w.heap.size w A1 c.out) (h2 : Bs w.heap.size w A2 c.out) :
    Calls Tryz.prog 9 #[.agg (c.cells (.slice A1 c.out.length k1)).toArray, .agg (c.cells (.slice A2 c.out.length k2)).toArray] w fun e w' => e = .returned (.bool true) ∧ Below w.heap.size w w' := by
  obtain ⟨cs, hcs⟩ : ∃ cs, cs = (c.cells (.slice A1 c.out.length k1)).toArray := ⟨_, rfl⟩
  obtain ⟨ds, hds⟩ : ∃ ds, ds = (c.cells (.slice A2 c.out.length k2)).toArray := ⟨_, rfl⟩
  obtain ⟨W, hW⟩ : ∃ W : World, W = (w.alloc (.cells cs 27)).alloc (.cells ds 27) := ⟨_, rfl⟩
  have hB : Below w.heap.size w W := by rw [hW]; exact ((Below.refl _ _).alloc (Nat.le_refl _) _).alloc (by rw [World.size_alloc]; omega) _
  have g1 : W.heap[w.heap.size]? = some (.cells cs 27 (0, 0)) := by rw [hW]; exact obj_alloc (heap_alloc_new w _)
  have g2 : W.heap[w.heap.size + 1]? = some (.cells ds 27 (0, 0)) := by
    have := heap_alloc_new (w.alloc (.cells cs 27)) (.cells ds 27)
    rw [World.size_alloc] at this
    rw [hW]; exact this
  have HW := Lib.hid hW
  have hm : c.regs.map rV = c.regs.map rV := rfl
  obtain ⟨rs, hrs⟩ : ∃ rs, rs = c.regs.map rV := ⟨_, rfl⟩
  have he : ∀ W, (Op.equalIn 10000 23 (.agg rs.toArray) (.agg rs.toArray)).run Tryz.prog W = .ok true W := by rw [hrs]; exact regs_eq c.regs hl
  have a0 : W.cell? ⟨w.heap.size, 0, none⟩ = some (.int .u64 (c.pc : Int)) := (obj_cell g1 0).trans (by rw [hcs]; rfl)
  have b0 : W.cell? ⟨w.heap.size + 1, 0, none⟩ = some (.int .u64 (c.pc : Int)) := (obj_cell g2 0).trans (by rw [hds]; rfl)
  have a33 : W.cell? ⟨w.heap.size, 33, none⟩ = some (.int .i64 c.steps) := (obj_cell g1 33).trans (by rw [hcs, List.getElem?_toArray]; exact cget_tail hl 0 (by omega))
  have b33 : W.cell? ⟨w.heap.size + 1, 33, none⟩ = some (.int .i64 c.steps) := (obj_cell g2 33).trans (by rw [hds, List.getElem?_toArray]; exact cget_tail hl 0 (by omega))
  have a34 : W.cell? ⟨w.heap.size, 34, none⟩ = some (.bool c.halted) := (obj_cell g1 34).trans (by rw [hcs, List.getElem?_toArray]; exact cget_tail hl 1 (by omega))
  have b34 : W.cell? ⟨w.heap.size + 1, 34, none⟩ = some (.bool c.halted) := (obj_cell g2 34).trans (by rw [hds, List.getElem?_toArray]; exact cget_tail hl 1 (by omega))
  have a35 : W.cell? ⟨w.heap.size, 35, none⟩ = some (.int .i64 c.code) := (obj_cell g1 35).trans (by rw [hcs, List.getElem?_toArray]; exact cget_tail hl 2 (by omega))
  have b35 : W.cell? ⟨w.heap.size + 1, 35, none⟩ = some (.int .i64 c.code) := (obj_cell g2 35).trans (by rw [hds, List.getElem?_toArray]; exact cget_tail hl 2 (by omega))
  have a36 : W.cell? ⟨w.heap.size, 36, none⟩ = some (.int .i64 c.fault) := (obj_cell g1 36).trans (by rw [hcs, List.getElem?_toArray]; exact cget_tail hl 3 (by omega))
  have b36 : W.cell? ⟨w.heap.size + 1, 36, none⟩ = some (.int .i64 c.fault) := (obj_cell g2 36).trans (by rw [hds, List.getElem?_toArray]; exact cget_tail hl 3 (by omega))
  have a37 : W.cell? ⟨w.heap.size, 37, none⟩ = some (.slice A1 c.out.length k1) := (obj_cell g1 37).trans (by rw [hcs, List.getElem?_toArray]; exact cget_tail hl 4 (by omega))
  have b37 : W.cell? ⟨w.heap.size + 1, 37, none⟩ = some (.slice A2 c.out.length k2) := (obj_cell g2 37).trans (by rw [hds, List.getElem?_toArray]; exact cget_tail hl 4 (by omega))
  have a38 : W.cell? ⟨w.heap.size, 38, none⟩ = some (.int .i64 c.inn) := (obj_cell g1 38).trans (by rw [hcs, List.getElem?_toArray]; exact cget_tail hl 5 (by omega))
  have b38 : W.cell? ⟨w.heap.size + 1, 38, none⟩ = some (.int .i64 c.inn) := (obj_cell g2 38).trans (by rw [hds, List.getElem?_toArray]; exact cget_tail hl 5 (by omega))
  have a1 : W.rangeAt w.heap.size 1 rs := fun j v hv => (obj_cell g1 (1 + j)).trans (by rw [hcs, List.getElem?_toArray]; rw [hrs] at hv; exact cregs_at hl j v hv)
  have b1 : W.rangeAt (w.heap.size + 1) 1 rs := fun j v hv => (obj_cell g2 (1 + j)).trans (by rw [hds, List.getElem?_toArray]; rw [hrs] at hv; exact cregs_at hl j v hv)
  have hz : (Tryz.prog.info? 23).map (·.size) = some rs.length := by rw [hrs, List.length_map, hl]; exact Tryz_sizeRegs
  have HZ := Lib.hid (And.intro a1 (And.intro b1 hz))
  have HB := Lib.hid (And.intro ((h1.below hB).mono hB.size) ((h2.below hB).mono hB.size))
  rw [← hcs, ← hds]
  clear a1 b1 hz g1 g2 hW hcs hds hrs h1 h2 hm hl
  generalize c.pc = xpc at *
  generalize c.steps = xst at *
  generalize c.halted = xha at *
  generalize c.code = xco at *
  generalize c.fault = xfa at *
  generalize c.inn = xin at *
  generalize c.out = xo at *
  have t0 : ((xpc : Int) == (xpc : Int)) = true := by simp
  have t1 : (xst == xst) = true := by simp
  have t2 : (xha == xha) = true := by simp
  have t3 : (xco == xco) = true := by simp
  have t4 : (xfa == xfa) = true := by simp
  have t5 : (xin == xin) = true := by simp
  go_enter Tryz.func9, Tryz.ntmps9
  go_upto_region 1 with fail
  rw [← HW.out]
  go_wp2_with (first
    | refine wpList_load_want (op := ⟨some 12, _, _, _, _, _⟩) rfl 23 (.tmp 11) rfl w.heap.size 1 rfl rs _ HZ.out.1 Tryz.underlying23 rfl HZ.out.2.2 ?_
    | refine wpList_load_want (op := ⟨some 14, _, _, _, _, _⟩) rfl 23 (.tmp 13) rfl (w.heap.size + 1) 1 rfl rs _ HZ.out.2.1 Tryz.underlying23 rfl HZ.out.2.2 ?_)
  refine Calls.mono (pBytes_any _ A1 A2 xo.length xo.length k1 k2 W.heap.size W.heap.size xo xo HB.out.1 HB.out.2 rfl rfl) ?_
  rintro e w' ⟨rfl, rfl⟩
  rw [beq_self_eq_true xo]
  go_wp2
  go_ret
  exact ⟨rfl, hB⟩
end Go.Proofs

/- Two machines side by side. -/
namespace Go.Pat
open Go Go.RowKit
/-- what New tells. -/
def newE (c : Mc) (ps : List PgIn) (n : Nat) : Int := if rightB c n then fromE (ps.map PgIn.pg) else 1
end Go.Pat
namespace Go.Proofs
open Go Go.RowKit Go.Pat
/-- the blocks that a machine uses. -/
def uses (m p mb : Nat) (ov iv : Value) (fs : List Fr) (k : Nat) : Prop := mine m fs ov k ∨ k = p ∨ k = mb ∨ iv.ownBlock = some k
theorem MachAt.kept {w w' : World} {m p mb : Nat} {ov iv : Value} {s : Ms} (h : MachAt w m p mb ov iv s) (hk : ∀ k, uses m p mb ov iv s.fs k → w'.heap[k]? = w.heap[k]?) : MachAt w' m p mb ov iv s :=
  ⟨(hk m (.inl (.inl rfl))).trans h.cells, h.mem.keep (hk p (.inr (.inl rfl))) (hk mb (.inr (.inr (.inl rfl)))) fun f hf => hk f.blk (.inl (.inr (.inl (List.mem_map_of_mem hf)))), h.len, h.small, h.pc,
    h.out.keep fun g hg => hk g (.inl (.inr (.inr hg))), h.inn.keep fun g hg => hk g (.inr (.inr (.inr hg))), h.rng, h.apO, h.apI⟩
theorem MachAt.usesLt {w : World} {m p mb : Nat} {ov iv : Value} {s : Ms} (h : MachAt w m p mb ov iv s) {k : Nat} (hk : uses m p mb ov iv s.fs k) : k < w.heap.size := by
  have hl := h.mem.lt
  rcases hk with (rfl | hk | hk) | rfl | rfl | hk
  · exact h.lt
  · obtain ⟨f, hf, rfl⟩ := List.mem_map.1 hk
    exact hl.2.2 f hf
  · obtain ⟨-, cur, hc⟩ := h.out.block hk
    exact lt_of_block hc
  · exact hl.1
  · exact hl.2.1
  · obtain ⟨-, cur, hc⟩ := h.inn.block hk
    exact lt_of_block hc
/-- a machine that New has made. -/
structure Made (B : Nat) (w : World) (c : Mc) (ps : List PgIn) (inp : List UInt8) (m p mb : Nat) (ov iv : Value) (fs : List Fr) : Prop where
  at_ : MachAt w m p mb ov iv ⟨c, fs, inp⟩
  pg : fs.map Fr.pg = ps.map PgIn.pg
  ge : ∀ k, uses m p mb ov iv fs k → B ≤ k
theorem NewPost.two {w w' : World} {c : Mc} {ps : List PgIn} {inp : List UInt8} {e : Ending} (h : NewPost w c ps inp e w') : Below w.heap.size w w' ∧
    ((newE c ps inp.length ≠ 0 ∧ e = .returned (.tuple #[.pointer none, .int .i64 (newE c ps inp.length)])) ∨
     (newE c ps inp.length = 0 ∧ rightB c inp.length = true ∧ fromE (ps.map PgIn.pg) = 0 ∧ ∃ (m p mb : Nat) (ov iv : Value) (fs : List Fr), e = .returned (.tuple #[.pointer (some ⟨m, 0, none⟩), .int .i64 0]) ∧ Made w.heap.size w' c ps inp m p mb ov iv fs)) := by
  refine ⟨h.1, ?_⟩
  rcases h.2 with ⟨h1, rfl⟩ | ⟨h1, h2, rfl⟩ | ⟨h1, h2, m, p, mb, ov, iv, fs, rfl, hM, hfs, hmine, hp, hmb, hiv⟩
  · have e1 : newE c ps inp.length = 1 := by unfold newE; rw [h1]; rfl
    rw [e1]
    exact .inl ⟨by decide, rfl⟩
  · have e1 : newE c ps inp.length = fromE (ps.map PgIn.pg) := by unfold newE; rw [h1]; rfl
    rw [e1]
    exact .inl ⟨h2, rfl⟩
  · have e1 : newE c ps inp.length = 0 := by unfold newE; rw [h1]; exact h2
    refine .inr ⟨e1, h1, h2, m, p, mb, ov, iv, fs, rfl, hM, hfs, fun k hk => ?_⟩
    rcases hk with hk | rfl | rfl | hk
    · exact hmine k hk
    · exact hp
    · exact hmb
    · exact hiv k hk
theorem rightB_reg0 {c : Mc} {n : Nat} (h : rightB c n = true) : c.reg 0 = 0 := by
  simp only [rightB, rightG, Bool.and_eq_true, beq_iff_eq] at h
  have := h.1
  omega
theorem from_few {l : List Pgd} (h : fromE l = 0) : l.length ≤ 4096 := by
  rcases Nat.lt_or_ge 4096 l.length with h1 | h1
  · unfold fromE at h
    rw [if_pos h1] at h
    cases h
  · exact h1
/-- behind a run: the machine, and another one that shares nothing with it. -/
theorem run_keeps {w w' : World} {m p mb : Nat} {ov iv : Value} {s : Ms} {S : Nat → Prop} (h : MachAt w m p mb ov iv s) (hk : KeptBut S w w') (hs : ∀ k, uses m p mb ov iv s.fs k → ¬ S k) : MachAt w' m p mb ov iv s :=
  h.kept fun k hu => hk.block k (h.usesLt hu) (hs k hu)
theorem Run_named (w : World) (m p mb : Nat) (ov iv : Value) (s : Ms) (n r : Nat) (t : Ms) (hr : runM n s = (r, t)) (hM : MachAt w m p mb ov iv s) (hR : RvRows w) (hsep : ¬ mine m s.fs ov 0) (hn : n ≤ 9223372036854775807) (hroom : s.c.out.length + n ≤ 140737488355328) :
    Calls Tryz.prog 7 #[.pointer (some ⟨m, 0, none⟩), .int .i64 (n : Int)] w fun e w' => e = .returned (.int .i64 (r : Int)) ∧ ∃ ov', MachAt w' m p mb ov' iv t ∧ KeptBut (mine m s.fs ov) w w' ∧ (∀ g, ov'.ownBlock = some g → ov.ownBlock = some g ∨ w.heap.size ≤ g) ∧ t.fs.map (·.blk) = s.fs.map (·.blk) := by
  refine (Run_any w m p mb ov iv s n hM hR hsep hn hroom).mono ?_
  rintro e w' ⟨rfl, ov', h1, h2, h3, h4⟩
  rw [hr] at h1 h4
  exact ⟨by rw [hr], ov', h1, h2, h3, h4⟩
theorem State_form (w : World) (m p mb : Nat) (ov iv : Value) (s : Ms) (c : Mc) (hc : s.c = c) (hM : MachAt w m p mb ov iv s) (hol : s.c.out.length ≤ 140737488355328) :
    Calls Tryz.prog 10 #[.pointer (some ⟨m, 0, none⟩)] w fun e w' => ∃ A k, e = .returned (.agg (c.cells (.slice A c.out.length k)).toArray) ∧ Bs w'.heap.size w' A c.out ∧ Below w.heap.size w w' := by
  subst hc
  refine (State_any w m p mb ov iv s hM hol).mono ?_
  rintro e w' ⟨ov', rfl, h1, h2⟩
  obtain ⟨A, k, rfl, h3⟩ := h1.form
  exact ⟨A, k, rfl, h3, h2⟩
theorem step_loadG {P : Program} {ops : Array Oper} {o : Oper} {a : Act} {w : World} {K : Act → World → Prop} {Q : Exit → Act → World → Prop} {E : Prop} (hw : Region.wanted o (yielded ops a.tmps) = true) (ty : TypeId) (x : Operand) (ho : o.op = .load ty x)
    (b off : Nat) (hx : a.eval x = .pointer (some ⟨b, off, none⟩)) (cs : List Value) (d : TypeDesc) (hc : w.rangeAt b off cs) (hu : P.underlying ty = some d) (hd : d.isRow = true) (hi : (P.info? ty).map (·.size) = some cs.length)
    (h : K (a.put o.dst (.agg cs.toArray)) w) : if Region.wanted o (yielded ops a.tmps) = true then Oper.wp P o a w K Q else E := by
  rw [if_pos hw]
  exact wp_load_mid ty x ho b off hx cs d hc hu hd hi h
end Go.Proofs

/- patinalaw03.CpuParts: the walk. -/
namespace Go.Proofs
open Go Go.RowKit Go.Pat
/-- the cells of a case. -/
def caseC (c : Mc) (OA PA IA : Option Addr) (oc pc ic np ni : Nat) (N : Int) : List Value := c.cells (.slice OA c.out.length oc) ++ [.slice PA np pc, .slice IA ni ic, .int .i64 N]
end Go.Proofs
