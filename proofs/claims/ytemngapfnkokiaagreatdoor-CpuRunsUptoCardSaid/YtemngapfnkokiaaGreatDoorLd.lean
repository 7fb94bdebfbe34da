/- (*cpu.Machine).load and cpu.signed. -/
import Derived.Test.YtemngapfnkokiaaGreatDoorMachC
namespace Go.Pat
open Go Go.RowKit
theorem ldV_is (op v s : Nat) (hs : ldS op = s) : IntKind.u64.wrap ((wrap64 (IntKind.u64.wrap ((v : Int) * 2 ^ s))).fdiv (2 ^ s)) = ((ldV op v : Nat) : Int) := by unfold ldV; rw [hs, wrN_is]
theorem ldV_q (op v s : Nat) (c : Int) (hs : ldS op = s) (hc : (2 : Int) ^ s = c) (h0 : 0 ≤ c) : IntKind.u64.wrap (wrap64 (IntKind.u64.wrap ((v : Int) * c)) / c) = ((ldV op v : Nat) : Int) := by
  have := ldV_is op v s hs
  rw [hc, Int.fdiv_eq_ediv_of_nonneg _ h0] at this
  exact this
theorem ldV_el (op v : Nat) (h : 14 ≤ op) : IntKind.u64.wrap (wrap64 (IntKind.u64.wrap (v : Int))) = ((ldV op v : Nat) : Int) := by
  have := ldV_is op v 0 (by unfold ldS; rw [if_neg (by omega), if_neg (by omega), if_neg (by omega)])
  rw [Int.pow_zero, Int.mul_one, Int.fdiv_one] at this
  exact this
end Go.Pat
namespace Go.Proofs
open Go Go.RowKit Go.Pat
theorem csigned_k (op v : Nat) (h : op = 11 ∨ op = 12 ∨ op = 13) (w : World) : Calls Tryz.prog 69 #[.int .i64 (op : Int), .int .u64 v] w fun e w' => e = .returned (.int .u64 ((ldV op v : Nat) : Int)) ∧ w' = w := by
  rcases h with rfl | rfl | rfl
  · have s1 := fun (W : World) => run_shl (P := Tryz.prog) .u64 .i64 (v : Int) 56 56 rfl (by decide) W
    have s2 := fun (z : Int) (W : World) => run_shr (P := Tryz.prog) .i64 .i64 z 56 56 rfl (by decide) W
    have HX := Lib.hid (ldV_q 11 v 56 72057594037927936 rfl rfl (by decide))
    go_enter Tryz.func69, Tryz.ntmps69
    go_wp2
    go_ret
    refine ⟨congrArg (fun z => Ending.returned (Value.int IntKind.u64 z)) ?_, rfl⟩
    exact HX.out
  · have s1 := fun (W : World) => run_shl (P := Tryz.prog) .u64 .i64 (v : Int) 48 48 rfl (by decide) W
    have s2 := fun (z : Int) (W : World) => run_shr (P := Tryz.prog) .i64 .i64 z 48 48 rfl (by decide) W
    have HX := Lib.hid (ldV_q 12 v 48 281474976710656 rfl rfl (by decide))
    go_enter Tryz.func69, Tryz.ntmps69
    go_wp2
    go_ret
    refine ⟨congrArg (fun z => Ending.returned (Value.int IntKind.u64 z)) ?_, rfl⟩
    exact HX.out
  · have s1 := fun (W : World) => run_shl (P := Tryz.prog) .u64 .i64 (v : Int) 32 32 rfl (by decide) W
    have s2 := fun (z : Int) (W : World) => run_shr (P := Tryz.prog) .i64 .i64 z 32 32 rfl (by decide) W
    have HX := Lib.hid (ldV_q 13 v 32 4294967296 rfl rfl (by decide))
    go_enter Tryz.func69, Tryz.ntmps69
    go_wp2
    go_ret
    refine ⟨congrArg (fun z => Ending.returned (Value.int IntKind.u64 z)) ?_, rfl⟩
    exact HX.out
theorem csigned_el (op v : Nat) (h : 14 ≤ op) (w : World) : Calls Tryz.prog 69 #[.int .i64 (op : Int), .int .u64 v] w fun e w' => e = .returned (.int .u64 ((ldV op v : Nat) : Int)) ∧ w' = w := by
  have s1 := fun (W : World) => run_shl (P := Tryz.prog) .u64 .i64 (v : Int) 0 0 rfl (by decide) W
  have s2 := fun (z : Int) (W : World) => run_shr (P := Tryz.prog) .i64 .i64 z 0 0 rfl (by decide) W
  have HX := Lib.hid (ldV_el op v h)
  have e1 : ((op : Int) == 11) = false := eqF (b := 11) (by omega)
  have e2 : ((op : Int) == 12) = false := eqF (b := 12) (by omega)
  have e3 : ((op : Int) == 13) = false := eqF (b := 13) (by omega)
  go_enter Tryz.func69, Tryz.ntmps69
  go_wp2
  go_ret
  refine ⟨congrArg (fun z => Ending.returned (Value.int IntKind.u64 z)) ?_, rfl⟩
  exact HX.out
theorem csigned_any (op v : Nat) (h1 : 11 ≤ op) (w : World) : Calls Tryz.prog 69 #[.int .i64 (op : Int), .int .u64 v] w fun e w' => e = .returned (.int .u64 ((ldV op v : Nat) : Int)) ∧ w' = w := by
  by_cases h : 14 ≤ op
  · exact csigned_el op v h w
  · exact csigned_k op v (by omega) w
theorem Load_st (w : World) (p mb : Nat) (fs : List Fr) (hM : MemAt w p mb fs) (at_ : Nat) (n : Int) (hat : at_ < 18446744073709551616) (q : Nat) (z : Int) (hq : loadM fs at_ n = (q, z)) :
    Calls Tryz.prog 68 #[.pointer (some ⟨p, 0, none⟩), .int .u64 at_, .int .i64 n] w fun e w' => e = .returned (.tuple #[.int .u64 (q : Int), .int .i64 z]) ∧ Below w.heap.size w w' := by
  have := Load_any w p mb fs hM at_ n hat
  rw [hq] at this
  exact this
theorem ldV_lt (op v : Nat) : ldV op v < 18446744073709551616 := wrN_lt _
def LoadTo (m p mb : Nat) (ov iv : Value) (s : Ms) (op rd at_ : Nat) (w : World) (e : Ending) (w' : World) : Prop :=
  e = .returned (.int .i64 (if (loadM s.fs at_ (ldN op)).2 = 0 then 0 else 32)) ∧
  MachAt w' m p mb ov iv (if (loadM s.fs at_ (ldN op)).2 = 0 then { s with c := { s.c with regs := s.c.regs.set rd (ldV op (loadM s.fs at_ (ldN op)).1) } } else s) ∧ KeptBut (mine m s.fs ov) w w'
set_option maxRecDepth 20000 in
set_option maxHeartbeats 4000000 in
theorem cload_11 (rd r1 r2 : Nat) (imm : Int) (w : World) (m p mb : Nat) (ov iv : Value) (s : Ms) (hM : MachAt w m p mb ov iv s) (at_ : Nat) (hat : at_ < 18446744073709551616) (hrd : rd < 32) :
    Calls Tryz.prog 49 #[.pointer (some ⟨m, 0, none⟩), .agg #[.int .i64 11, .int .i64 (rd : Int), .int .i64 (r1 : Int), .int .i64 (r2 : Int), .int .i64 imm], .int .u64 at_] w (LoadTo m p mb ov iv s 11 rd at_ w) := by
  obtain ⟨q, hq⟩ : ∃ q, q = (loadM s.fs at_ 1).1 := ⟨_, rfl⟩
  obtain ⟨z, hz⟩ : ∃ z, z = (loadM s.fs at_ 1).2 := ⟨_, rfl⟩
  have hqz : loadM s.fs at_ 1 = (q, z) := by rw [hq, hz]
  have HE := Lib.hid (show loadM s.fs at_ (ldN 11) = (q, z) from hqz)
  have HL := Lib.hid (fun W (h : MemAt W p mb s.fs) => Load_st W p mb s.fs h at_ 1 hat q z hqz)
  have HS := Lib.hid (fun W => csigned_any 11 q (by decide) W)
  clear hq hz hqz
  obtain ⟨w1, hw1⟩ : ∃ W : World, W = w.alloc (.cells #[.int .i64 11, .int .i64 (rd : Int), .int .i64 (r1 : Int), .int .i64 (r2 : Int), .int .i64 imm] 78) := ⟨_, rfl⟩
  have hi0 : w1.heap[w.heap.size]? = some (.cells #[.int .i64 11, .int .i64 (rd : Int), .int .i64 (r1 : Int), .int .i64 (r2 : Int), .int .i64 imm] 78 (0, 0)) := by rw [hw1]; exact heap_alloc_new w _
  have hB1 : Below w.heap.size w w1 := by rw [hw1]; exact (Below.refl _ _).alloc (Nat.le_refl _) _
  have HW := Lib.hid hw1
  clear hw1
  have hM1 := hM.below hB1
  have i0 := (obj_cell hi0 0).trans rfl
  have i1 := (obj_cell hi0 1).trans rfl
  have c39 := hM1.cmem
  go_enter Tryz.func49, Tryz.ntmps49
  go_upto_region 1 with fail
  rw [← HW.out]
  go_wp2_with fail
  refine Calls.mono (HL.out _ hM1.mem) ?_
  rintro e w2 ⟨rfl, hB2⟩
  have hB : Below w.heap.size w w2 := hB1.trans (hB2.mono hB1.size)
  have hM2 := hM.below hB
  have hi2 := (hB2.block _ (lt_of_block hi0)).trans hi0
  have j0 := (obj_cell hi2 0).trans rfl
  have j1 := (obj_cell hi2 1).trans rfl
  have n3 : (rd : Int) < 32 := by omega
  have cr := hM2.creg rd hrd
  have fr := hM2.fz (1 + rd)
  by_cases hz : z = 0
  · have tz : (z != 0) = false := by simp [hz]
    go_upto_region 7 with fail
    go_region_law (first | (go_simp; go_at_call 69; refine Calls.mono (HS.out _) ?_; rintro e w' ⟨rfl, rfl⟩))
    all_goals
      go_wp2
      go_ret
      refine ⟨?_, ?_, ?_⟩
      · rw [HE.out]; show _ = Ending.returned (.int .i64 (if z = 0 then 0 else 32)); rw [if_pos hz]; rfl
      · rw [HE.out]; show MachAt _ m p mb ov iv (if z = 0 then _ else s); rw [if_pos hz]
        exact (hM2.below (Below.refl _ _).drew).putReg rd _ hrd (ldV_lt _ _)
      · exact (KeptBut.of_below (hB.drew)).setCell _ (.inl rfl) _
  · have tz : (z != 0) = true := by simp [hz]
    go_wp2
    go_ret
    refine ⟨?_, ?_, KeptBut.of_below hB⟩
    · rw [HE.out]; show _ = Ending.returned (.int .i64 (if z = 0 then 0 else 32)); rw [if_neg hz]; rfl
    · rw [HE.out]; show MachAt _ m p mb ov iv (if z = 0 then _ else s); rw [if_neg hz]; exact hM2
set_option maxRecDepth 20000 in
set_option maxHeartbeats 4000000 in
theorem cload_12 (rd r1 r2 : Nat) (imm : Int) (w : World) (m p mb : Nat) (ov iv : Value) (s : Ms) (hM : MachAt w m p mb ov iv s) (at_ : Nat) (hat : at_ < 18446744073709551616) (hrd : rd < 32) :
    Calls Tryz.prog 49 #[.pointer (some ⟨m, 0, none⟩), .agg #[.int .i64 12, .int .i64 (rd : Int), .int .i64 (r1 : Int), .int .i64 (r2 : Int), .int .i64 imm], .int .u64 at_] w (LoadTo m p mb ov iv s 12 rd at_ w) := by
  obtain ⟨q, hq⟩ : ∃ q, q = (loadM s.fs at_ 2).1 := ⟨_, rfl⟩
  obtain ⟨z, hz⟩ : ∃ z, z = (loadM s.fs at_ 2).2 := ⟨_, rfl⟩
  have hqz : loadM s.fs at_ 2 = (q, z) := by rw [hq, hz]
  have HE := Lib.hid (show loadM s.fs at_ (ldN 12) = (q, z) from hqz)
  have HL := Lib.hid (fun W (h : MemAt W p mb s.fs) => Load_st W p mb s.fs h at_ 2 hat q z hqz)
  have HS := Lib.hid (fun W => csigned_any 12 q (by decide) W)
  clear hq hz hqz
  obtain ⟨w1, hw1⟩ : ∃ W : World, W = w.alloc (.cells #[.int .i64 12, .int .i64 (rd : Int), .int .i64 (r1 : Int), .int .i64 (r2 : Int), .int .i64 imm] 78) := ⟨_, rfl⟩
  have hi0 : w1.heap[w.heap.size]? = some (.cells #[.int .i64 12, .int .i64 (rd : Int), .int .i64 (r1 : Int), .int .i64 (r2 : Int), .int .i64 imm] 78 (0, 0)) := by rw [hw1]; exact heap_alloc_new w _
  have hB1 : Below w.heap.size w w1 := by rw [hw1]; exact (Below.refl _ _).alloc (Nat.le_refl _) _
  have HW := Lib.hid hw1
  clear hw1
  have hM1 := hM.below hB1
  have i0 := (obj_cell hi0 0).trans rfl
  have i1 := (obj_cell hi0 1).trans rfl
  have c39 := hM1.cmem
  go_enter Tryz.func49, Tryz.ntmps49
  go_upto_region 1 with fail
  rw [← HW.out]
  go_wp2_with fail
  refine Calls.mono (HL.out _ hM1.mem) ?_
  rintro e w2 ⟨rfl, hB2⟩
  have hB : Below w.heap.size w w2 := hB1.trans (hB2.mono hB1.size)
  have hM2 := hM.below hB
  have hi2 := (hB2.block _ (lt_of_block hi0)).trans hi0
  have j0 := (obj_cell hi2 0).trans rfl
  have j1 := (obj_cell hi2 1).trans rfl
  have n3 : (rd : Int) < 32 := by omega
  have cr := hM2.creg rd hrd
  have fr := hM2.fz (1 + rd)
  by_cases hz : z = 0
  · have tz : (z != 0) = false := by simp [hz]
    go_upto_region 7 with fail
    go_region_law (first | (go_simp; go_at_call 69; refine Calls.mono (HS.out _) ?_; rintro e w' ⟨rfl, rfl⟩))
    all_goals
      go_wp2
      go_ret
      refine ⟨?_, ?_, ?_⟩
      · rw [HE.out]; show _ = Ending.returned (.int .i64 (if z = 0 then 0 else 32)); rw [if_pos hz]; rfl
      · rw [HE.out]; show MachAt _ m p mb ov iv (if z = 0 then _ else s); rw [if_pos hz]
        exact (hM2.below (Below.refl _ _).drew).putReg rd _ hrd (ldV_lt _ _)
      · exact (KeptBut.of_below (hB.drew)).setCell _ (.inl rfl) _
  · have tz : (z != 0) = true := by simp [hz]
    go_wp2
    go_ret
    refine ⟨?_, ?_, KeptBut.of_below hB⟩
    · rw [HE.out]; show _ = Ending.returned (.int .i64 (if z = 0 then 0 else 32)); rw [if_neg hz]; rfl
    · rw [HE.out]; show MachAt _ m p mb ov iv (if z = 0 then _ else s); rw [if_neg hz]; exact hM2
set_option maxRecDepth 20000 in
set_option maxHeartbeats 4000000 in
theorem cload_13 (rd r1 r2 : Nat) (imm : Int) (w : World) (m p mb : Nat) (ov iv : Value) (s : Ms) (hM : MachAt w m p mb ov iv s) (at_ : Nat) (hat : at_ < 18446744073709551616) (hrd : rd < 32) :
    Calls Tryz.prog 49 #[.pointer (some ⟨m, 0, none⟩), .agg #[.int .i64 13, .int .i64 (rd : Int), .int .i64 (r1 : Int), .int .i64 (r2 : Int), .int .i64 imm], .int .u64 at_] w (LoadTo m p mb ov iv s 13 rd at_ w) := by
  obtain ⟨q, hq⟩ : ∃ q, q = (loadM s.fs at_ 4).1 := ⟨_, rfl⟩
  obtain ⟨z, hz⟩ : ∃ z, z = (loadM s.fs at_ 4).2 := ⟨_, rfl⟩
  have hqz : loadM s.fs at_ 4 = (q, z) := by rw [hq, hz]
  have HE := Lib.hid (show loadM s.fs at_ (ldN 13) = (q, z) from hqz)
  have HL := Lib.hid (fun W (h : MemAt W p mb s.fs) => Load_st W p mb s.fs h at_ 4 hat q z hqz)
  have HS := Lib.hid (fun W => csigned_any 13 q (by decide) W)
  clear hq hz hqz
  obtain ⟨w1, hw1⟩ : ∃ W : World, W = w.alloc (.cells #[.int .i64 13, .int .i64 (rd : Int), .int .i64 (r1 : Int), .int .i64 (r2 : Int), .int .i64 imm] 78) := ⟨_, rfl⟩
  have hi0 : w1.heap[w.heap.size]? = some (.cells #[.int .i64 13, .int .i64 (rd : Int), .int .i64 (r1 : Int), .int .i64 (r2 : Int), .int .i64 imm] 78 (0, 0)) := by rw [hw1]; exact heap_alloc_new w _
  have hB1 : Below w.heap.size w w1 := by rw [hw1]; exact (Below.refl _ _).alloc (Nat.le_refl _) _
  have HW := Lib.hid hw1
  clear hw1
  have hM1 := hM.below hB1
  have i0 := (obj_cell hi0 0).trans rfl
  have i1 := (obj_cell hi0 1).trans rfl
  have c39 := hM1.cmem
  go_enter Tryz.func49, Tryz.ntmps49
  go_upto_region 1 with fail
  rw [← HW.out]
  go_wp2_with fail
  refine Calls.mono (HL.out _ hM1.mem) ?_
  rintro e w2 ⟨rfl, hB2⟩
  have hB : Below w.heap.size w w2 := hB1.trans (hB2.mono hB1.size)
  have hM2 := hM.below hB
  have hi2 := (hB2.block _ (lt_of_block hi0)).trans hi0
  have j0 := (obj_cell hi2 0).trans rfl
  have j1 := (obj_cell hi2 1).trans rfl
  have n3 : (rd : Int) < 32 := by omega
  have cr := hM2.creg rd hrd
  have fr := hM2.fz (1 + rd)
  by_cases hz : z = 0
  · have tz : (z != 0) = false := by simp [hz]
    go_upto_region 7 with fail
    go_region_law (first | (go_simp; go_at_call 69; refine Calls.mono (HS.out _) ?_; rintro e w' ⟨rfl, rfl⟩))
    all_goals
      go_wp2
      go_ret
      refine ⟨?_, ?_, ?_⟩
      · rw [HE.out]; show _ = Ending.returned (.int .i64 (if z = 0 then 0 else 32)); rw [if_pos hz]; rfl
      · rw [HE.out]; show MachAt _ m p mb ov iv (if z = 0 then _ else s); rw [if_pos hz]
        exact (hM2.below (Below.refl _ _).drew).putReg rd _ hrd (ldV_lt _ _)
      · exact (KeptBut.of_below (hB.drew)).setCell _ (.inl rfl) _
  · have tz : (z != 0) = true := by simp [hz]
    go_wp2
    go_ret
    refine ⟨?_, ?_, KeptBut.of_below hB⟩
    · rw [HE.out]; show _ = Ending.returned (.int .i64 (if z = 0 then 0 else 32)); rw [if_neg hz]; rfl
    · rw [HE.out]; show MachAt _ m p mb ov iv (if z = 0 then _ else s); rw [if_neg hz]; exact hM2
set_option maxRecDepth 20000 in
set_option maxHeartbeats 4000000 in
theorem cload_14 (rd r1 r2 : Nat) (imm : Int) (w : World) (m p mb : Nat) (ov iv : Value) (s : Ms) (hM : MachAt w m p mb ov iv s) (at_ : Nat) (hat : at_ < 18446744073709551616) (hrd : rd < 32) :
    Calls Tryz.prog 49 #[.pointer (some ⟨m, 0, none⟩), .agg #[.int .i64 14, .int .i64 (rd : Int), .int .i64 (r1 : Int), .int .i64 (r2 : Int), .int .i64 imm], .int .u64 at_] w (LoadTo m p mb ov iv s 14 rd at_ w) := by
  obtain ⟨q, hq⟩ : ∃ q, q = (loadM s.fs at_ 8).1 := ⟨_, rfl⟩
  obtain ⟨z, hz⟩ : ∃ z, z = (loadM s.fs at_ 8).2 := ⟨_, rfl⟩
  have hqz : loadM s.fs at_ 8 = (q, z) := by rw [hq, hz]
  have HE := Lib.hid (show loadM s.fs at_ (ldN 14) = (q, z) from hqz)
  have HL := Lib.hid (fun W (h : MemAt W p mb s.fs) => Load_st W p mb s.fs h at_ 8 hat q z hqz)
  have HS := Lib.hid (fun W => csigned_any 14 q (by decide) W)
  clear hq hz hqz
  obtain ⟨w1, hw1⟩ : ∃ W : World, W = w.alloc (.cells #[.int .i64 14, .int .i64 (rd : Int), .int .i64 (r1 : Int), .int .i64 (r2 : Int), .int .i64 imm] 78) := ⟨_, rfl⟩
  have hi0 : w1.heap[w.heap.size]? = some (.cells #[.int .i64 14, .int .i64 (rd : Int), .int .i64 (r1 : Int), .int .i64 (r2 : Int), .int .i64 imm] 78 (0, 0)) := by rw [hw1]; exact heap_alloc_new w _
  have hB1 : Below w.heap.size w w1 := by rw [hw1]; exact (Below.refl _ _).alloc (Nat.le_refl _) _
  have HW := Lib.hid hw1
  clear hw1
  have hM1 := hM.below hB1
  have i0 := (obj_cell hi0 0).trans rfl
  have i1 := (obj_cell hi0 1).trans rfl
  have c39 := hM1.cmem
  go_enter Tryz.func49, Tryz.ntmps49
  go_upto_region 1 with fail
  rw [← HW.out]
  go_wp2_with fail
  refine Calls.mono (HL.out _ hM1.mem) ?_
  rintro e w2 ⟨rfl, hB2⟩
  have hB : Below w.heap.size w w2 := hB1.trans (hB2.mono hB1.size)
  have hM2 := hM.below hB
  have hi2 := (hB2.block _ (lt_of_block hi0)).trans hi0
  have j0 := (obj_cell hi2 0).trans rfl
  have j1 := (obj_cell hi2 1).trans rfl
  have n3 : (rd : Int) < 32 := by omega
  have cr := hM2.creg rd hrd
  have fr := hM2.fz (1 + rd)
  by_cases hz : z = 0
  · have tz : (z != 0) = false := by simp [hz]
    go_upto_region 7 with fail
    go_region_law (first | (go_simp; go_at_call 69; refine Calls.mono (HS.out _) ?_; rintro e w' ⟨rfl, rfl⟩))
    all_goals
      go_wp2
      go_ret
      refine ⟨?_, ?_, ?_⟩
      · rw [HE.out]; show _ = Ending.returned (.int .i64 (if z = 0 then 0 else 32)); rw [if_pos hz]; rfl
      · rw [HE.out]; show MachAt _ m p mb ov iv (if z = 0 then _ else s); rw [if_pos hz]
        exact (hM2.below (Below.refl _ _).drew).putReg rd _ hrd (ldV_lt _ _)
      · exact (KeptBut.of_below (hB.drew)).setCell _ (.inl rfl) _
  · have tz : (z != 0) = true := by simp [hz]
    go_wp2
    go_ret
    refine ⟨?_, ?_, KeptBut.of_below hB⟩
    · rw [HE.out]; show _ = Ending.returned (.int .i64 (if z = 0 then 0 else 32)); rw [if_neg hz]; rfl
    · rw [HE.out]; show MachAt _ m p mb ov iv (if z = 0 then _ else s); rw [if_neg hz]; exact hM2
set_option maxRecDepth 20000 in
set_option maxHeartbeats 4000000 in
theorem cload_15 (rd r1 r2 : Nat) (imm : Int) (w : World) (m p mb : Nat) (ov iv : Value) (s : Ms) (hM : MachAt w m p mb ov iv s) (at_ : Nat) (hat : at_ < 18446744073709551616) (hrd : rd < 32) :
    Calls Tryz.prog 49 #[.pointer (some ⟨m, 0, none⟩), .agg #[.int .i64 15, .int .i64 (rd : Int), .int .i64 (r1 : Int), .int .i64 (r2 : Int), .int .i64 imm], .int .u64 at_] w (LoadTo m p mb ov iv s 15 rd at_ w) := by
  obtain ⟨q, hq⟩ : ∃ q, q = (loadM s.fs at_ 1).1 := ⟨_, rfl⟩
  obtain ⟨z, hz⟩ : ∃ z, z = (loadM s.fs at_ 1).2 := ⟨_, rfl⟩
  have hqz : loadM s.fs at_ 1 = (q, z) := by rw [hq, hz]
  have HE := Lib.hid (show loadM s.fs at_ (ldN 15) = (q, z) from hqz)
  have HL := Lib.hid (fun W (h : MemAt W p mb s.fs) => Load_st W p mb s.fs h at_ 1 hat q z hqz)
  have HS := Lib.hid (fun W => csigned_any 15 q (by decide) W)
  clear hq hz hqz
  obtain ⟨w1, hw1⟩ : ∃ W : World, W = w.alloc (.cells #[.int .i64 15, .int .i64 (rd : Int), .int .i64 (r1 : Int), .int .i64 (r2 : Int), .int .i64 imm] 78) := ⟨_, rfl⟩
  have hi0 : w1.heap[w.heap.size]? = some (.cells #[.int .i64 15, .int .i64 (rd : Int), .int .i64 (r1 : Int), .int .i64 (r2 : Int), .int .i64 imm] 78 (0, 0)) := by rw [hw1]; exact heap_alloc_new w _
  have hB1 : Below w.heap.size w w1 := by rw [hw1]; exact (Below.refl _ _).alloc (Nat.le_refl _) _
  have HW := Lib.hid hw1
  clear hw1
  have hM1 := hM.below hB1
  have i0 := (obj_cell hi0 0).trans rfl
  have i1 := (obj_cell hi0 1).trans rfl
  have c39 := hM1.cmem
  go_enter Tryz.func49, Tryz.ntmps49
  go_upto_region 1 with fail
  rw [← HW.out]
  go_wp2_with fail
  refine Calls.mono (HL.out _ hM1.mem) ?_
  rintro e w2 ⟨rfl, hB2⟩
  have hB : Below w.heap.size w w2 := hB1.trans (hB2.mono hB1.size)
  have hM2 := hM.below hB
  have hi2 := (hB2.block _ (lt_of_block hi0)).trans hi0
  have j0 := (obj_cell hi2 0).trans rfl
  have j1 := (obj_cell hi2 1).trans rfl
  have n3 : (rd : Int) < 32 := by omega
  have cr := hM2.creg rd hrd
  have fr := hM2.fz (1 + rd)
  by_cases hz : z = 0
  · have tz : (z != 0) = false := by simp [hz]
    go_upto_region 7 with fail
    go_region_law (first | (go_simp; go_at_call 69; refine Calls.mono (HS.out _) ?_; rintro e w' ⟨rfl, rfl⟩))
    all_goals
      go_wp2
      go_ret
      refine ⟨?_, ?_, ?_⟩
      · rw [HE.out]; show _ = Ending.returned (.int .i64 (if z = 0 then 0 else 32)); rw [if_pos hz]; rfl
      · rw [HE.out]; show MachAt _ m p mb ov iv (if z = 0 then _ else s); rw [if_pos hz]
        exact (hM2.below (Below.refl _ _).drew).putReg rd _ hrd (ldV_lt _ _)
      · exact (KeptBut.of_below (hB.drew)).setCell _ (.inl rfl) _
  · have tz : (z != 0) = true := by simp [hz]
    go_wp2
    go_ret
    refine ⟨?_, ?_, KeptBut.of_below hB⟩
    · rw [HE.out]; show _ = Ending.returned (.int .i64 (if z = 0 then 0 else 32)); rw [if_neg hz]; rfl
    · rw [HE.out]; show MachAt _ m p mb ov iv (if z = 0 then _ else s); rw [if_neg hz]; exact hM2
set_option maxRecDepth 20000 in
set_option maxHeartbeats 4000000 in
theorem cload_16 (rd r1 r2 : Nat) (imm : Int) (w : World) (m p mb : Nat) (ov iv : Value) (s : Ms) (hM : MachAt w m p mb ov iv s) (at_ : Nat) (hat : at_ < 18446744073709551616) (hrd : rd < 32) :
    Calls Tryz.prog 49 #[.pointer (some ⟨m, 0, none⟩), .agg #[.int .i64 16, .int .i64 (rd : Int), .int .i64 (r1 : Int), .int .i64 (r2 : Int), .int .i64 imm], .int .u64 at_] w (LoadTo m p mb ov iv s 16 rd at_ w) := by
  obtain ⟨q, hq⟩ : ∃ q, q = (loadM s.fs at_ 2).1 := ⟨_, rfl⟩
  obtain ⟨z, hz⟩ : ∃ z, z = (loadM s.fs at_ 2).2 := ⟨_, rfl⟩
  have hqz : loadM s.fs at_ 2 = (q, z) := by rw [hq, hz]
  have HE := Lib.hid (show loadM s.fs at_ (ldN 16) = (q, z) from hqz)
  have HL := Lib.hid (fun W (h : MemAt W p mb s.fs) => Load_st W p mb s.fs h at_ 2 hat q z hqz)
  have HS := Lib.hid (fun W => csigned_any 16 q (by decide) W)
  clear hq hz hqz
  obtain ⟨w1, hw1⟩ : ∃ W : World, W = w.alloc (.cells #[.int .i64 16, .int .i64 (rd : Int), .int .i64 (r1 : Int), .int .i64 (r2 : Int), .int .i64 imm] 78) := ⟨_, rfl⟩
  have hi0 : w1.heap[w.heap.size]? = some (.cells #[.int .i64 16, .int .i64 (rd : Int), .int .i64 (r1 : Int), .int .i64 (r2 : Int), .int .i64 imm] 78 (0, 0)) := by rw [hw1]; exact heap_alloc_new w _
  have hB1 : Below w.heap.size w w1 := by rw [hw1]; exact (Below.refl _ _).alloc (Nat.le_refl _) _
  have HW := Lib.hid hw1
  clear hw1
  have hM1 := hM.below hB1
  have i0 := (obj_cell hi0 0).trans rfl
  have i1 := (obj_cell hi0 1).trans rfl
  have c39 := hM1.cmem
  go_enter Tryz.func49, Tryz.ntmps49
  go_upto_region 1 with fail
  rw [← HW.out]
  go_wp2_with fail
  refine Calls.mono (HL.out _ hM1.mem) ?_
  rintro e w2 ⟨rfl, hB2⟩
  have hB : Below w.heap.size w w2 := hB1.trans (hB2.mono hB1.size)
  have hM2 := hM.below hB
  have hi2 := (hB2.block _ (lt_of_block hi0)).trans hi0
  have j0 := (obj_cell hi2 0).trans rfl
  have j1 := (obj_cell hi2 1).trans rfl
  have n3 : (rd : Int) < 32 := by omega
  have cr := hM2.creg rd hrd
  have fr := hM2.fz (1 + rd)
  by_cases hz : z = 0
  · have tz : (z != 0) = false := by simp [hz]
    go_upto_region 7 with fail
    go_region_law (first | (go_simp; go_at_call 69; refine Calls.mono (HS.out _) ?_; rintro e w' ⟨rfl, rfl⟩))
    all_goals
      go_wp2
      go_ret
      refine ⟨?_, ?_, ?_⟩
      · rw [HE.out]; show _ = Ending.returned (.int .i64 (if z = 0 then 0 else 32)); rw [if_pos hz]; rfl
      · rw [HE.out]; show MachAt _ m p mb ov iv (if z = 0 then _ else s); rw [if_pos hz]
        exact (hM2.below (Below.refl _ _).drew).putReg rd _ hrd (ldV_lt _ _)
      · exact (KeptBut.of_below (hB.drew)).setCell _ (.inl rfl) _
  · have tz : (z != 0) = true := by simp [hz]
    go_wp2
    go_ret
    refine ⟨?_, ?_, KeptBut.of_below hB⟩
    · rw [HE.out]; show _ = Ending.returned (.int .i64 (if z = 0 then 0 else 32)); rw [if_neg hz]; rfl
    · rw [HE.out]; show MachAt _ m p mb ov iv (if z = 0 then _ else s); rw [if_neg hz]; exact hM2
set_option maxRecDepth 20000 in
set_option maxHeartbeats 4000000 in
theorem cload_17 (rd r1 r2 : Nat) (imm : Int) (w : World) (m p mb : Nat) (ov iv : Value) (s : Ms) (hM : MachAt w m p mb ov iv s) (at_ : Nat) (hat : at_ < 18446744073709551616) (hrd : rd < 32) :
    Calls Tryz.prog 49 #[.pointer (some ⟨m, 0, none⟩), .agg #[.int .i64 17, .int .i64 (rd : Int), .int .i64 (r1 : Int), .int .i64 (r2 : Int), .int .i64 imm], .int .u64 at_] w (LoadTo m p mb ov iv s 17 rd at_ w) := by
  obtain ⟨q, hq⟩ : ∃ q, q = (loadM s.fs at_ 4).1 := ⟨_, rfl⟩
  obtain ⟨z, hz⟩ : ∃ z, z = (loadM s.fs at_ 4).2 := ⟨_, rfl⟩
  have hqz : loadM s.fs at_ 4 = (q, z) := by rw [hq, hz]
  have HE := Lib.hid (show loadM s.fs at_ (ldN 17) = (q, z) from hqz)
  have HL := Lib.hid (fun W (h : MemAt W p mb s.fs) => Load_st W p mb s.fs h at_ 4 hat q z hqz)
  have HS := Lib.hid (fun W => csigned_any 17 q (by decide) W)
  clear hq hz hqz
  obtain ⟨w1, hw1⟩ : ∃ W : World, W = w.alloc (.cells #[.int .i64 17, .int .i64 (rd : Int), .int .i64 (r1 : Int), .int .i64 (r2 : Int), .int .i64 imm] 78) := ⟨_, rfl⟩
  have hi0 : w1.heap[w.heap.size]? = some (.cells #[.int .i64 17, .int .i64 (rd : Int), .int .i64 (r1 : Int), .int .i64 (r2 : Int), .int .i64 imm] 78 (0, 0)) := by rw [hw1]; exact heap_alloc_new w _
  have hB1 : Below w.heap.size w w1 := by rw [hw1]; exact (Below.refl _ _).alloc (Nat.le_refl _) _
  have HW := Lib.hid hw1
  clear hw1
  have hM1 := hM.below hB1
  have i0 := (obj_cell hi0 0).trans rfl
  have i1 := (obj_cell hi0 1).trans rfl
  have c39 := hM1.cmem
  go_enter Tryz.func49, Tryz.ntmps49
  go_upto_region 1 with fail
  rw [← HW.out]
  go_wp2_with fail
  refine Calls.mono (HL.out _ hM1.mem) ?_
  rintro e w2 ⟨rfl, hB2⟩
  have hB : Below w.heap.size w w2 := hB1.trans (hB2.mono hB1.size)
  have hM2 := hM.below hB
  have hi2 := (hB2.block _ (lt_of_block hi0)).trans hi0
  have j0 := (obj_cell hi2 0).trans rfl
  have j1 := (obj_cell hi2 1).trans rfl
  have n3 : (rd : Int) < 32 := by omega
  have cr := hM2.creg rd hrd
  have fr := hM2.fz (1 + rd)
  by_cases hz : z = 0
  · have tz : (z != 0) = false := by simp [hz]
    go_upto_region 7 with fail
    go_region_law (first | (go_simp; go_at_call 69; refine Calls.mono (HS.out _) ?_; rintro e w' ⟨rfl, rfl⟩))
    all_goals
      go_wp2
      go_ret
      refine ⟨?_, ?_, ?_⟩
      · rw [HE.out]; show _ = Ending.returned (.int .i64 (if z = 0 then 0 else 32)); rw [if_pos hz]; rfl
      · rw [HE.out]; show MachAt _ m p mb ov iv (if z = 0 then _ else s); rw [if_pos hz]
        exact (hM2.below (Below.refl _ _).drew).putReg rd _ hrd (ldV_lt _ _)
      · exact (KeptBut.of_below (hB.drew)).setCell _ (.inl rfl) _
  · have tz : (z != 0) = true := by simp [hz]
    go_wp2
    go_ret
    refine ⟨?_, ?_, KeptBut.of_below hB⟩
    · rw [HE.out]; show _ = Ending.returned (.int .i64 (if z = 0 then 0 else 32)); rw [if_neg hz]; rfl
    · rw [HE.out]; show MachAt _ m p mb ov iv (if z = 0 then _ else s); rw [if_neg hz]; exact hM2
theorem cload_any (op rd r1 r2 : Nat) (imm : Int) (w : World) (m p mb : Nat) (ov iv : Value) (s : Ms) (hM : MachAt w m p mb ov iv s) (at_ : Nat) (hat : at_ < 18446744073709551616) (hrd : rd < 32) (h1 : 11 ≤ op) (h2 : op ≤ 17) :
    Calls Tryz.prog 49 #[.pointer (some ⟨m, 0, none⟩), .agg #[.int .i64 (op : Int), .int .i64 (rd : Int), .int .i64 (r1 : Int), .int .i64 (r2 : Int), .int .i64 imm], .int .u64 at_] w (LoadTo m p mb ov iv s op rd at_ w) := by
  rcases (by omega : op = 11 ∨ op = 12 ∨ op = 13 ∨ op = 14 ∨ op = 15 ∨ op = 16 ∨ op = 17) with rfl | rfl | rfl | rfl | rfl | rfl | rfl
  · exact cload_11 rd r1 r2 imm w m p mb ov iv s hM at_ hat hrd
  · exact cload_12 rd r1 r2 imm w m p mb ov iv s hM at_ hat hrd
  · exact cload_13 rd r1 r2 imm w m p mb ov iv s hM at_ hat hrd
  · exact cload_14 rd r1 r2 imm w m p mb ov iv s hM at_ hat hrd
  · exact cload_15 rd r1 r2 imm w m p mb ov iv s hM at_ hat hrd
  · exact cload_16 rd r1 r2 imm w m p mb ov iv s hM at_ hat hrd
  · exact cload_17 rd r1 r2 imm w m p mb ov iv s hM at_ hat hrd
end Go.Proofs
