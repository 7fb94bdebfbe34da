/- patinaplain.Cpu and Pages, of things that are the same. -/
import Derived.Test.YtemngapfnkokiaaGreatDoorBufs
import Derived.Test.YtemngapfnkokiaaGreatDoorMemTop
import Derived.BigQuiet
import Derived.DeepKeys
import Derived.Deep.MidRow
import Derived.Deep.Cut
namespace Go.Pat
open Go Go.RowKit
def cpuV (en : Nat) : Value := .agg #[.int .u64 (en : Int), .int .u64 0, .int .u64 0, .int .u64 0, .int .u64 0, .int .u64 0, .int .u64 0, .int .u64 0, .int .u64 0, .int .u64 0, .int .u64 0, .int .u64 0, .int .u64 0, .int .u64 0, .int .u64 0, .int .u64 0, .int .u64 0,
  .int .u64 0, .int .u64 0, .int .u64 0, .int .u64 0, .int .u64 0, .int .u64 0, .int .u64 0, .int .u64 0, .int .u64 0, .int .u64 0, .int .u64 0, .int .u64 0, .int .u64 0, .int .u64 0, .int .u64 0, .int .u64 0,
  .int .i64 0, .bool false, .int .i64 0, .int .i64 0, .slice none 0 0, .int .i64 0]
end Go.Pat
namespace Go.Proofs
open Go Go.RowKit Go.Pat

theorem Tryz_eqRegs (W : World) : (Op.equalIn 10000 23 (.agg #[.int .u64 0, .int .u64 0, .int .u64 0, .int .u64 0, .int .u64 0, .int .u64 0, .int .u64 0, .int .u64 0, .int .u64 0, .int .u64 0, .int .u64 0, .int .u64 0, .int .u64 0, .int .u64 0, .int .u64 0, .int .u64 0, .int .u64 0, .int .u64 0, .int .u64 0, .int .u64 0, .int .u64 0, .int .u64 0, .int .u64 0, .int .u64 0, .int .u64 0, .int .u64 0, .int .u64 0, .int .u64 0, .int .u64 0, .int .u64 0, .int .u64 0, .int .u64 0]) (.agg #[.int .u64 0, .int .u64 0, .int .u64 0, .int .u64 0, .int .u64 0, .int .u64 0, .int .u64 0, .int .u64 0, .int .u64 0, .int .u64 0, .int .u64 0, .int .u64 0, .int .u64 0, .int .u64 0, .int .u64 0, .int .u64 0, .int .u64 0, .int .u64 0, .int .u64 0, .int .u64 0, .int .u64 0, .int .u64 0, .int .u64 0, .int .u64 0, .int .u64 0, .int .u64 0, .int .u64 0, .int .u64 0, .int .u64 0, .int .u64 0, .int .u64 0, .int .u64 0])).run Tryz.prog W = .ok true W := by
  have hs : (Tryz.prog.keyLits 3 23 (Value.agg #[.int .u64 0, .int .u64 0, .int .u64 0, .int .u64 0, .int .u64 0, .int .u64 0, .int .u64 0, .int .u64 0, .int .u64 0, .int .u64 0, .int .u64 0, .int .u64 0, .int .u64 0, .int .u64 0, .int .u64 0, .int .u64 0, .int .u64 0, .int .u64 0, .int .u64 0, .int .u64 0, .int .u64 0, .int .u64 0, .int .u64 0, .int .u64 0, .int .u64 0, .int .u64 0, .int .u64 0, .int .u64 0, .int .u64 0, .int .u64 0, .int .u64 0, .int .u64 0]).cells.toList).isSome = true := by kernel_rfl
  obtain ⟨la, hla⟩ := Option.isSome_iff_exists.1 hs
  obtain ⟨r, h1, h2⟩ := run_equalIn_deep (P := Tryz.prog) 9998 2 23 (by kernel_rfl) W 3 3 _ _ la la (by kernel_rfl) (by kernel_rfl) hla hla
  rw [h2.2 rfl] at h1
  exact h1
/-- a machine's state, as cells: all but PC are 0. -/
structure CpuAt (cs : Array Value) (en : Nat) (rs : List Value) : Prop where
  size : cs.size = 39
  pc : cs[0]? = some (.int .u64 (en : Int))
  regs : ∀ j v, rs[j]? = some v → cs[1 + j]? = some v
  rsize : rs.length = 32
  steps : cs[33]? = some (.int .i64 0)
  halted : cs[34]? = some (.bool false)
  code : cs[35]? = some (.int .i64 0)
  fault : cs[36]? = some (.int .i64 0)
  out : cs[37]? = some (.slice none 0 0)
  inn : cs[38]? = some (.int .i64 0)
theorem wpList_load_want {P : Program} {ops : Array Oper} {rest : List Oper} {op : Oper} {a : Act} {w : World} {Q : Exit → Act → World → Prop} (hw : Region.wanted op (yielded ops a.tmps) = true) (ty : TypeId) (x : Operand) (ho : op.op = .load ty x)
    (b o : Nat) (hx : a.eval x = .pointer (some ⟨b, o, none⟩)) (cs : List Value) (d : TypeDesc) (hc : w.rangeAt b o cs)
    (hu : P.underlying ty = some d) (hd : d.isRow = true) (hi : (P.info? ty).map (·.size) = some cs.length)
    (h : wpList P ops Q rest (a.put op.dst (.agg cs.toArray)) w) : wpList P ops Q (op :: rest) a w :=
  BigFrame.wpList_want hw fun _ hK => wp_load_mid ty x ho b o hx cs d hc hu hd hi (hK _ _ h)
theorem Tryz_sizeRegs : (Tryz.prog.info? 23).map (·.size) = some 32 := by kernel_rfl
set_option maxRecDepth 20000 in
set_option maxHeartbeats 8000000 in
theorem pCpu_cells (w : World) (en : Nat) (cs : Array Value) (rs : List Value) (hc : CpuAt cs en rs) (he : ∀ W, (Op.equalIn 10000 23 (.agg rs.toArray) (.agg rs.toArray)).run Tryz.prog W = .ok true W) :
    Calls Tryz.prog 9 #[.agg cs, .agg cs] w fun e w' => e = .returned (.bool true) ∧ Below w.heap.size w w' := by
  obtain ⟨W, hW⟩ : ∃ W : World, W = (w.alloc (.cells cs 27)).alloc (.cells cs 27) := ⟨_, rfl⟩
  have hB : Below w.heap.size w W := by rw [hW]; exact ((Below.refl _ _).alloc (Nat.le_refl _) _).alloc (by rw [World.size_alloc]; omega) _
  have h1 : W.heap[w.heap.size]? = some (.cells cs 27 (0, 0)) := by rw [hW]; exact obj_alloc (heap_alloc_new w _)
  have h2 : W.heap[w.heap.size + 1]? = some (.cells cs 27 (0, 0)) := by
    have := heap_alloc_new (w.alloc (.cells cs 27)) (.cells cs 27)
    rw [World.size_alloc] at this
    rw [hW]; exact this
  have HW := Lib.hid hW
  clear hW
  have a0 := (obj_cell h1 0).trans hc.pc
  have b0 := (obj_cell h2 0).trans hc.pc
  have a33 := (obj_cell h1 33).trans hc.steps
  have b33 := (obj_cell h2 33).trans hc.steps
  have a34 := (obj_cell h1 34).trans hc.halted
  have b34 := (obj_cell h2 34).trans hc.halted
  have a35 := (obj_cell h1 35).trans hc.code
  have b35 := (obj_cell h2 35).trans hc.code
  have a36 := (obj_cell h1 36).trans hc.fault
  have b36 := (obj_cell h2 36).trans hc.fault
  have a37 := (obj_cell h1 37).trans hc.out
  have b37 := (obj_cell h2 37).trans hc.out
  have a38 := (obj_cell h1 38).trans hc.inn
  have b38 := (obj_cell h2 38).trans hc.inn
  have a1 : W.rangeAt w.heap.size 1 rs := fun j v hv => (obj_cell h1 (1 + j)).trans (hc.regs j v hv)
  have b1 : W.rangeAt (w.heap.size + 1) 1 rs := fun j v hv => (obj_cell h2 (1 + j)).trans (hc.regs j v hv)
  have hz : (Tryz.prog.info? 23).map (·.size) = some rs.length := by rw [hc.rsize]; exact Tryz_sizeRegs
  have HZ := Lib.hid (And.intro a1 (And.intro b1 hz))
  clear a1 b1 hz
  clear hc h1 h2
  go_enter Tryz.func9, Tryz.ntmps9
  go_upto_region 1 with fail
  rw [← HW.out]
  go_wp2_with (first
    | refine wpList_load_want (op := ⟨some 12, _, _, _, _, _⟩) rfl 23 (.tmp 11) rfl w.heap.size 1 rfl rs _ HZ.out.1 Tryz.underlying23 rfl HZ.out.2.2 ?_
    | refine wpList_load_want (op := ⟨some 14, _, _, _, _, _⟩) rfl 23 (.tmp 13) rfl (w.heap.size + 1) 1 rfl rs _ HZ.out.2.1 Tryz.underlying23 rfl HZ.out.2.2 ?_)
  refine Calls.mono (pBytes_any _ none none 0 0 0 0 0 0 [] [] .nil .nil rfl rfl) ?_
  rintro e w' ⟨rfl, rfl⟩
  go_wp2
  go_ret
  exact ⟨rfl, hB⟩
theorem cpuV_at (en : Nat) : ∃ cs rs, cpuV en = .agg cs ∧ CpuAt cs en rs ∧ ∀ W, (Op.equalIn 10000 23 (.agg rs.toArray) (.agg rs.toArray)).run Tryz.prog W = .ok true W := by
  refine ⟨_, [.int .u64 0, .int .u64 0, .int .u64 0, .int .u64 0, .int .u64 0, .int .u64 0, .int .u64 0, .int .u64 0, .int .u64 0, .int .u64 0, .int .u64 0, .int .u64 0, .int .u64 0, .int .u64 0, .int .u64 0, .int .u64 0, .int .u64 0, .int .u64 0, .int .u64 0, .int .u64 0, .int .u64 0, .int .u64 0, .int .u64 0, .int .u64 0, .int .u64 0, .int .u64 0, .int .u64 0, .int .u64 0, .int .u64 0, .int .u64 0, .int .u64 0, .int .u64 0], rfl, ⟨rfl, rfl, ?_, rfl, rfl, rfl, rfl, rfl, rfl, rfl⟩, Tryz_eqRegs⟩
  intro j v hv
  match j, hv with
  | 0, hv => exact hv
  | 1, hv => exact hv
  | 2, hv => exact hv
  | 3, hv => exact hv
  | 4, hv => exact hv
  | 5, hv => exact hv
  | 6, hv => exact hv
  | 7, hv => exact hv
  | 8, hv => exact hv
  | 9, hv => exact hv
  | 10, hv => exact hv
  | 11, hv => exact hv
  | 12, hv => exact hv
  | 13, hv => exact hv
  | 14, hv => exact hv
  | 15, hv => exact hv
  | 16, hv => exact hv
  | 17, hv => exact hv
  | 18, hv => exact hv
  | 19, hv => exact hv
  | 20, hv => exact hv
  | 21, hv => exact hv
  | 22, hv => exact hv
  | 23, hv => exact hv
  | 24, hv => exact hv
  | 25, hv => exact hv
  | 26, hv => exact hv
  | 27, hv => exact hv
  | 28, hv => exact hv
  | 29, hv => exact hv
  | 30, hv => exact hv
  | 31, hv => exact hv
  | j + 32, hv => exact absurd hv (by simp)
theorem pCpu_same (w : World) (en : Nat) : Calls Tryz.prog 9 #[cpuV en, cpuV en] w fun e w' => e = .returned (.bool true) ∧ Below w.heap.size w w' := by
  obtain ⟨cs, rs, e, h1, h2⟩ := cpuV_at en
  rw [e]
  exact pCpu_cells w en cs rs h1 h2
set_option maxRecDepth 20000 in
set_option maxHeartbeats 4000000 in
theorem pPages_same (w : World) (A1 A2 : Option Addr) (n c1 c2 : Nat) (p1 p2 : List PgIn) (h1 : PgsAt w.heap.size w A1 p1) (h2 : PgsAt w.heap.size w A2 p2) (hn1 : p1.length = n) (hn2 : p2.length = n) (heq : p1.map PgIn.pg = p2.map PgIn.pg) :
    Calls Tryz.prog 11 #[.slice A1 n c1, .slice A2 n c2] w fun e w' => e = .returned (.bool true) ∧ Below w.heap.size w w' := by
  have hfew := h1.few
  rw [hn1] at hfew
  have HN := Lib.hid (And.intro hn1 (And.intro hn2 heq))
  clear hn1 hn2 heq
  have t0 : ((n : Int) != (n : Int)) = false := by simp
  go_enter Tryz.func11, Tryz.ntmps11
  go_wp2_with fail
  go_loopw [13] (fun i wr => ∃ j : Nat, j ≤ n ∧ i = .int .i64 j ∧ Below w.heap.size w wr) (fun i _ => n - (intOf i).toNat)
  case atStart => exact ⟨0, by omega, rfl, Below.refl _ _⟩
  case round =>
    obtain ⟨j, hj, rfl, hB⟩ := hrel
    have hP1 := h1.below hB
    have hP2 := h2.below hB
    by_cases hlt : j < n
    · have hd3 : decide ((j : Int) < (n : Int)) = true := decide_eq_true (by omega)
      have hji : (j : Int) < (n : Int) := by omega
      have hj1 : j < p1.length := by rw [HN.out.1]; exact hlt
      have hj2 : j < p2.length := by rw [HN.out.2.1]; exact hlt
      obtain ⟨b1, o1, rfl, hb1, q0, q1, q2⟩ := hP1.cells j hj1
      obtain ⟨b2, o2, rfl, hb2, r0, r1, r2⟩ := hP2.cells j hj2
      have hxy : p1[j].pg = p2[j].pg := by
        have h3 : (p1.map PgIn.pg)[j]? = (p2.map PgIn.pg)[j]? := by rw [HN.out.2.2]
        rw [List.getElem?_map, List.getElem?_map, List.getElem?_eq_getElem hj1, List.getElem?_eq_getElem hj2] at h3
        exact Option.some.inj h3
      obtain ⟨x, hx⟩ : ∃ x, x = p1[j] := ⟨_, rfl⟩
      obtain ⟨y, hy⟩ : ∃ y, y = p2[j] := ⟨_, rfl⟩
      rw [← hx] at q0 q1 q2 hxy
      rw [← hy] at r0 r1 r2 hxy
      have hbx := hP1.bytes x (by rw [hx]; exact List.getElem_mem _)
      have hby := hP2.bytes y (by rw [hy]; exact List.getElem_mem _)
      have e0 : y.base = x.base := (congrArg Pgd.base hxy).symm
      have e1 : y.perm = x.perm := (congrArg Pgd.perm hxy).symm
      have e2 : y.data = x.data := (congrArg Pgd.data hxy).symm
      rw [e0] at r0
      rw [e1] at r1
      rw [e2] at r2 hby
      clear hx hy hxy e0 e1 e2 hj1 hj2
      have ta : ((x.base : Int) != (x.base : Int)) = false := by simp
      have tp : (x.perm != x.perm) = false := by simp
      have hcall : ∀ m, Calls Tryz.prog 21 #[.slice x.A x.data.length x.cap, .slice y.A x.data.length y.cap] (wr.drewN m) fun e w' => e = .returned (.bool true) ∧ w' = wr.drewN m := fun m => by
        refine (pBytes_any (wr.drewN m) x.A y.A x.data.length x.data.length x.cap y.cap w.heap.size w.heap.size x.data x.data (hbx.below (bdrewN (Below.refl _ _) m)) (hby.below (bdrewN (Below.refl _ _) m)) rfl rfl).mono ?_
        rintro e w' ⟨rfl, rfl⟩
        exact ⟨by simp, rfl⟩
      go_wp2_with fail
      go_quiet ((go_at_call 21; exact Calls.quiet_of_same (hcall _)))
      go_wp2
      go_roundw
      case rel => exact ⟨j + 1, by omega, by go_num, bdrewN hB _⟩
      case measure => simp [intOf]; omega
    · have hd3 : decide ((j : Int) < (n : Int)) = false := decide_eq_false (by omega)
      obtain rfl : j = n := by omega
      go_wp2
      go_ret
      exact ⟨rfl, hB⟩
end Go.Proofs
