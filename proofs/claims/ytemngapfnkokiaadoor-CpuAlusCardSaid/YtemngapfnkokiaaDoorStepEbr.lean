/- (*cpu.Machine).step: the case Ebr. -/
import Derived.Test.YtemngapfnkokiaaDoorStepC
import Derived.Deep.RegionHeld3
namespace Go.Proofs
open Go Go.RowKit Go.Pat
set_option maxRecDepth 20000 in
set_option maxHeartbeats 8000000 in
theorem step_Ebr (w : World) (m p mb : Nat) (ov iv : Value) (s : Ms) (hM : MachAt w m p mb ov iv s) (hR : RvRows w) (x : Nat) (hf : fetchM s.fs s.c.pc = (x, 0)) (i : Ins) (hi : decR x = some i) (h1 : 65 ≤ i.op) (h2 : i.op ≤ 65) :
    Calls Tryd.prog 63 #[.pointer (some ⟨m, 0, none⟩)] w (StepTo m p mb ov iv s (execM i s) w) := by
  have hx : x < 4294967296 := by have := fetchM_lt s.fs s.c.pc; rw [hf] at this; exact this
  obtain ⟨b1, b2, b3, b4, b5⟩ := decR_some hi
  have a0 := hM.cpc
  have a39 := hM.cmem
  go_enter Tryd.func63, Tryd.ntmps63
  go_upto_region 1 with fail
  have hwd : Below w.heap.size w w.drew := (Below.refl _ _).drew
  go_region_held3 (fun w' => w'.cell? ⟨m, 0, none⟩ = some (.int .u64 (s.c.pc : Int)) ∧ w'.cell? ⟨m, 39, none⟩ = some (.pointer (some ⟨p, 0, none⟩)))
    (first | exact ⟨a0, a39⟩ | exact ⟨c0, c39⟩)
    (first | (go_at_call 94
              refine Calls.mono (Fetch_st w.drew p mb s.fs (hM.below hwd).mem s.c.pc hM.pc x 0 hf) ?_
              rintro e w1 ⟨rfl, hB1⟩
              have hB1' : Below w.heap.size w w1 := hwd.trans hB1
              have c0 := (hM.below hB1').cpc
              have c39 := (hM.below hB1').cmem))
  have hM1 := hM.below hB1'
  have hR1 := hR.below hB1'
  clear hf hB1 hwd c0 c39
  go_wp2_with fail
  refine Calls.mono (dec_st w1 hR1 x hx i hi) ?_
  rintro e w2 ⟨rfl, hB2⟩
  go_upto_region 5 with fail
  obtain ⟨w3, hw3⟩ : ∃ W : World, W = w2.alloc (.cells #[.int .i64 (i.op : Int), .int .i64 (i.rd : Int), .int .i64 (i.rs1 : Int), .int .i64 (i.rs2 : Int), .int .i64 i.imm] 32) := ⟨_, rfl⟩
  have hi0 : w3.heap[w2.heap.size]? = some (.cells #[.int .i64 (i.op : Int), .int .i64 (i.rd : Int), .int .i64 (i.rs1 : Int), .int .i64 (i.rs2 : Int), .int .i64 i.imm] 32 (0, 0)) := by rw [hw3]; exact heap_alloc_new w2 _
  have hB3 : Below w2.heap.size w2 w3 := by rw [hw3]; exact (Below.refl _ _).alloc (Nat.le_refl _) _
  rw [← hw3]
  clear hw3
  have hB : Below w.heap.size w w3 := hB1'.trans ((hB2.mono hB1'.size).trans (hB3.mono (Nat.le_trans hB1'.size hB2.size)))
  have hM3 := hM.below hB
  clear hM1 hR1 hB1' hB2 hB3 hR a0 a39 hi hx
  have i0 := (obj_cell hi0 0).trans rfl
  have i1 := (obj_cell hi0 1).trans rfl
  have i2 := (obj_cell hi0 2).trans rfl
  have i3 := (obj_cell hi0 3).trans rfl
  have i4 := (obj_cell hi0 4).trans rfl
  have a0 := hM3.cpc
  have r1 := hM3.creg i.rs1 b4
  have r2 := hM3.creg i.rs2 b5
  have n1 : (i.rs1 : Int) < 32 := by omega
  have n2 : (i.rs2 : Int) < 32 := by omega
  have n3 : (i.rd : Int) < 32 := by omega
  go_wp2_with fail
  go_quiet (fail)
  rw [show IntKind.u64.wrap i.imm = ((wrN i.imm : Nat) : Int) from (wrN_is _).symm, show IntKind.u64.wrap ((s.c.pc : Int) + 4) = ((nextPc s : Nat) : Int) from nextPc_is s]
  have rd := hM3.creg i.rd b3
  have fd := hM3.fz (1 + i.rd)
  have f0 := hM3.fz 0
  have e1 : ((i.op : Int) == 1) = false := eqF (b := 1) (by omega)
  have e2 : ((i.op : Int) == 2) = false := eqF (b := 2) (by omega)
  have e3 : ((i.op : Int) == 3) = false := eqF (b := 3) (by omega)
  have e4 : ((i.op : Int) == 4) = false := eqF (b := 4) (by omega)
  have e10 : decide ((i.op : Int) ≤ 10) = false := decide_eq_false (by omega)
  have e17 : decide ((i.op : Int) ≤ 17) = false := decide_eq_false (by omega)
  have e21 : decide ((i.op : Int) ≤ 21) = false := decide_eq_false (by omega)
  have e34 : decide ((i.op : Int) ≤ 34) = false := decide_eq_false (by omega)
  have e62 : decide ((i.op : Int) ≤ 62) = false := decide_eq_false (by omega)
  have e65 : ((i.op : Int) == 65) = true := eqT (b := 65) (by omega)
  have HE := Lib.hid (show execM i s = (34, s) by unfold execM; rw [if_neg (by omega), if_neg (by omega), if_neg (by omega), if_neg (by omega), if_neg (by omega), if_neg (by omega), if_neg (by omega), if_neg (by omega), if_neg (by omega), if_pos (by omega)])
  all_goals
    go_wp2
    go_ret
    refine ⟨by rw [HE.out]; rfl, ov, ?_, ?_⟩
    · rw [HE.out]
      exact (hM3.below (bdrewN (Below.refl _ _) _))
    · exact ⟨(KeptBut.of_below (bdrewN hB _)), fun g h => .inl h⟩
end Go.Proofs
