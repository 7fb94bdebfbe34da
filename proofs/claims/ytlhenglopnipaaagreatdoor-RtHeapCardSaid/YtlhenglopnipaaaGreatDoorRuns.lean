/- (*cpu.Machine).step: no word, or one that says nothing. -/
import Derived.Test.YtlhenglopnipaaaGreatDoorMachC
import Derived.Deep.RegionHeld3
import Derived.Deep.RegionLaw
import Derived.Test.YtlhenglopnipaaaGreatDoorBufs
namespace Go.Proofs
open Go Go.RowKit Go.Pat
set_option maxRecDepth 20000 in
set_option maxHeartbeats 8000000 in
theorem step_nofetch (w : World) (m p mb : Nat) (ov iv : Value) (s : Ms) (hM : MachAt w m p mb ov iv s) (x : Nat) (z : Int) (hf : fetchM s.fs s.c.pc = (x, z)) (hz : z ≠ 0) :
    Calls Tryz.prog 75 #[.pointer (some ⟨m, 0, none⟩)] w (StepTo m p mb ov iv s (30, s) w) := by
  have hx : x < 4294967296 := by have := fetchM_lt s.fs s.c.pc; rw [hf] at this; exact this
  have a0 := hM.cpc
  have a39 := hM.cmem
  go_enter Tryz.func75, Tryz.ntmps75
  go_upto_region 1 with fail
  have hwd : Below w.heap.size w w.drew := (Below.refl _ _).drew
  go_region_held3 (fun w' => w'.cell? ⟨m, 0, none⟩ = some (.int .u64 (s.c.pc : Int)) ∧ w'.cell? ⟨m, 39, none⟩ = some (.pointer (some ⟨p, 0, none⟩)))
    (first | exact ⟨a0, a39⟩ | exact ⟨c0, c39⟩)
    (first | (go_at_call 90
              refine Calls.mono (Fetch_st w.drew p mb s.fs (hM.below hwd).mem s.c.pc hM.pc x z hf) ?_
              rintro e w1 ⟨rfl, hB1⟩
              have hB1' : Below w.heap.size w w1 := hwd.trans hB1
              have c0 := (hM.below hB1').cpc
              have c39 := (hM.below hB1').cmem))
  have tz : (z != 0) = true := by simp [hz]
  clear hf hB1 hwd c0 c39
  go_wp2
  go_ret
  exact ⟨rfl, ov, hM.below hB1', .of_below hB1', fun g h => .inl h⟩
set_option maxRecDepth 20000 in
set_option maxHeartbeats 8000000 in
theorem step_noword (w : World) (m p mb : Nat) (ov iv : Value) (s : Ms) (hM : MachAt w m p mb ov iv s) (hR : RvRows w) (x : Nat) (hf : fetchM s.fs s.c.pc = (x, 0)) (hi : decR x = none) :
    Calls Tryz.prog 75 #[.pointer (some ⟨m, 0, none⟩)] w (StepTo m p mb ov iv s (31, s) w) := by
  have hx : x < 4294967296 := by have := fetchM_lt s.fs s.c.pc; rw [hf] at this; exact this
  have a0 := hM.cpc
  have a39 := hM.cmem
  go_enter Tryz.func75, Tryz.ntmps75
  go_upto_region 1 with fail
  have hwd : Below w.heap.size w w.drew := (Below.refl _ _).drew
  go_region_held3 (fun w' => w'.cell? ⟨m, 0, none⟩ = some (.int .u64 (s.c.pc : Int)) ∧ w'.cell? ⟨m, 39, none⟩ = some (.pointer (some ⟨p, 0, none⟩)))
    (first | exact ⟨a0, a39⟩ | exact ⟨c0, c39⟩)
    (first | (go_at_call 90
              refine Calls.mono (Fetch_st w.drew p mb s.fs (hM.below hwd).mem s.c.pc hM.pc x 0 hf) ?_
              rintro e w1 ⟨rfl, hB1⟩
              have hB1' : Below w.heap.size w w1 := hwd.trans hB1
              have c0 := (hM.below hB1').cpc
              have c39 := (hM.below hB1').cmem))
  have hM1 := hM.below hB1'
  have hR1 := hR.below hB1'
  clear hf hB1 hwd c0 c39
  go_wp2_with fail
  refine Calls.mono (dec_none w1 hR1 x hx hi) ?_
  rintro e w2 ⟨rfl, hB2⟩
  go_upto_region 5 with fail
  have hB3 : Below w.heap.size w w2 := hB1'.trans (hB2.mono hB1'.size)
  have hBA := fun o => hB3.alloc hB3.size o
  go_wp2
  go_ret
  exact ⟨rfl, ov, hM.below (hBA _), .of_below (hBA _), fun g h => .inl h⟩
end Go.Proofs

/- (*cpu.Machine).step: the case Imm. -/
namespace Go.Proofs
open Go Go.RowKit Go.Pat
set_option maxRecDepth 20000 in
set_option maxHeartbeats 8000000 in
theorem step_Imm (w : World) (m p mb : Nat) (ov iv : Value) (s : Ms) (hM : MachAt w m p mb ov iv s) (hR : RvRows w) (x : Nat) (hf : fetchM s.fs s.c.pc = (x, 0)) (i : Ins) (hi : decR x = some i) (h1 : 22 ≤ i.op) (h2 : i.op ≤ 34) :
    Calls Tryz.prog 75 #[.pointer (some ⟨m, 0, none⟩)] w (StepTo m p mb ov iv s (execM i s) w) := by
  have hx : x < 4294967296 := by have := fetchM_lt s.fs s.c.pc; rw [hf] at this; exact this
  obtain ⟨b1, b2, b3, b4, b5⟩ := decR_some hi
  have a0 := hM.cpc
  have a39 := hM.cmem
  go_enter Tryz.func75, Tryz.ntmps75
  go_upto_region 1 with fail
  have hwd : Below w.heap.size w w.drew := (Below.refl _ _).drew
  go_region_held3 (fun w' => w'.cell? ⟨m, 0, none⟩ = some (.int .u64 (s.c.pc : Int)) ∧ w'.cell? ⟨m, 39, none⟩ = some (.pointer (some ⟨p, 0, none⟩)))
    (first | exact ⟨a0, a39⟩ | exact ⟨c0, c39⟩)
    (first | (go_at_call 90
              refine Calls.mono (Fetch_st w.drew p mb s.fs (hM.below hwd).mem s.c.pc hM.pc x 0 hf) ?_
              rintro e w1 ⟨rfl, hB1⟩
              have hB1' : Below w.heap.size w w1 := hwd.trans hB1
              have c0 := (hM.below hB1').cpc
              have c39 := (hM.below hB1').cmem))
  have hM1 := hM.below hB1'
  have hR1 := hR.below hB1'
  clear hf hB1 hwd c0 c39
  go_wp2_with fail
  refine Calls.mono (dec_st w1 hR1 x hx i hi) ?_
  rintro e w2 ⟨rfl, hB2⟩
  go_upto_region 5 with fail
  obtain ⟨w3, hw3⟩ : ∃ W : World, W = w2.alloc (.cells #[.int .i64 (i.op : Int), .int .i64 (i.rd : Int), .int .i64 (i.rs1 : Int), .int .i64 (i.rs2 : Int), .int .i64 i.imm] 26) := ⟨_, rfl⟩
  have hi0 : w3.heap[w2.heap.size]? = some (.cells #[.int .i64 (i.op : Int), .int .i64 (i.rd : Int), .int .i64 (i.rs1 : Int), .int .i64 (i.rs2 : Int), .int .i64 i.imm] 26 (0, 0)) := by rw [hw3]; exact heap_alloc_new w2 _
  have hB3 : Below w2.heap.size w2 w3 := by rw [hw3]; exact (Below.refl _ _).alloc (Nat.le_refl _) _
  rw [← hw3]
  clear hw3
  have hB : Below w.heap.size w w3 := hB1'.trans ((hB2.mono hB1'.size).trans (hB3.mono (Nat.le_trans hB1'.size hB2.size)))
  have hM3 := hM.below hB
  clear hM1 hR1 hB1' hB2 hB3 hR a0 a39 hi hx
  have i0 := (obj_cell hi0 0).trans rfl
  have i1 := (obj_cell hi0 1).trans rfl
  have i2 := (obj_cell hi0 2).trans rfl
  have i3 := (obj_cell hi0 3).trans rfl
  have i4 := (obj_cell hi0 4).trans rfl
  have a0 := hM3.cpc
  have r1 := hM3.creg i.rs1 b4
  have r2 := hM3.creg i.rs2 b5
  have n1 : (i.rs1 : Int) < 32 := by omega
  have n2 : (i.rs2 : Int) < 32 := by omega
  have n3 : (i.rd : Int) < 32 := by omega
  go_wp2_with fail
  go_quiet (fail)
  rw [show IntKind.u64.wrap i.imm = ((wrN i.imm : Nat) : Int) from (wrN_is _).symm, show IntKind.u64.wrap ((s.c.pc : Int) + 4) = ((nextPc s : Nat) : Int) from nextPc_is s]
  have rd := hM3.creg i.rd b3
  have fd := hM3.fz (1 + i.rd)
  have f0 := hM3.fz 0
  have e1 : ((i.op : Int) == 1) = false := eqF (b := 1) (by omega)
  have e2 : ((i.op : Int) == 2) = false := eqF (b := 2) (by omega)
  have e3 : ((i.op : Int) == 3) = false := eqF (b := 3) (by omega)
  have e4 : ((i.op : Int) == 4) = false := eqF (b := 4) (by omega)
  have e10 : decide ((i.op : Int) ≤ 10) = false := decide_eq_false (by omega)
  have e17 : decide ((i.op : Int) ≤ 17) = false := decide_eq_false (by omega)
  have e21 : decide ((i.op : Int) ≤ 21) = false := decide_eq_false (by omega)
  have e34 : decide ((i.op : Int) ≤ 34) = true := decide_eq_true (by omega)
  go_upto_region 32 with fail
  have HE := Lib.hid (show execM i s = (0, { s with c := s.c.put i.rd (aluV i.op (s.c.reg i.rs1) (wrN i.imm)).toNat (nextPc s) }) by unfold execM; rw [if_neg (by omega), if_neg (by omega), if_neg (by omega), if_neg (by omega), if_neg (by omega), if_neg (by omega), if_neg (by omega), if_pos (by omega)])
  obtain ⟨hv, hvl⟩ := aluV_nat i.op (s.c.reg i.rs1) (wrN i.imm) (by omega) (by omega) (hM3.small _) (wrN_lt _)
  obtain ⟨V, hV⟩ : ∃ V, V = (aluV i.op (s.c.reg i.rs1) (wrN i.imm)).toNat := ⟨_, rfl⟩
  rw [← hV] at hv hvl HE
  have hAl : ∀ W : World, Calls Tryz.prog 95 #[.int .i64 (i.op : Int), .int .u64 (s.c.reg i.rs1 : Nat), .int .u64 ((wrN i.imm) : Nat)] W fun e w' => e = .returned (.tuple #[.int .u64 (V : Int), .int .i64 0]) ∧ w' = W := fun W => by
    rw [← hv]; exact cAlu_in i.op (s.c.reg i.rs1) (wrN i.imm) (by omega) (by omega) (hM3.small _) (wrN_lt _) W
  have HA := Lib.hid hAl
  clear hAl hv hV h1 h2
  go_region_law (first | (go_simp; go_at_call 95; refine Calls.mono (HA.out _) ?_; rintro e w' ⟨rfl, rfl⟩))
  all_goals
    go_wp2
    go_ret
    refine ⟨by rw [HE.out]; rfl, ov, ?_, ?_⟩
    · rw [HE.out]
      exact ((hM3.below (bdrewN (Below.refl _ _) _)).putReg i.rd V b3 hvl).putPc (nextPc s) (nextPc_lt s)
    · exact ⟨((KeptBut.of_below (bdrewN hB _)).setCell _ (.inl rfl) _).setCell _ (.inl rfl) _, fun g h => .inl h⟩
end Go.Proofs

/- (*cpu.Machine).step: the case Reg. -/
namespace Go.Proofs
open Go Go.RowKit Go.Pat
set_option maxRecDepth 20000 in
set_option maxHeartbeats 8000000 in
theorem step_Reg (w : World) (m p mb : Nat) (ov iv : Value) (s : Ms) (hM : MachAt w m p mb ov iv s) (hR : RvRows w) (x : Nat) (hf : fetchM s.fs s.c.pc = (x, 0)) (i : Ins) (hi : decR x = some i) (h1 : 35 ≤ i.op) (h2 : i.op ≤ 62) :
    Calls Tryz.prog 75 #[.pointer (some ⟨m, 0, none⟩)] w (StepTo m p mb ov iv s (execM i s) w) := by
  have hx : x < 4294967296 := by have := fetchM_lt s.fs s.c.pc; rw [hf] at this; exact this
  obtain ⟨b1, b2, b3, b4, b5⟩ := decR_some hi
  have a0 := hM.cpc
  have a39 := hM.cmem
  go_enter Tryz.func75, Tryz.ntmps75
  go_upto_region 1 with fail
  have hwd : Below w.heap.size w w.drew := (Below.refl _ _).drew
  go_region_held3 (fun w' => w'.cell? ⟨m, 0, none⟩ = some (.int .u64 (s.c.pc : Int)) ∧ w'.cell? ⟨m, 39, none⟩ = some (.pointer (some ⟨p, 0, none⟩)))
    (first | exact ⟨a0, a39⟩ | exact ⟨c0, c39⟩)
    (first | (go_at_call 90
              refine Calls.mono (Fetch_st w.drew p mb s.fs (hM.below hwd).mem s.c.pc hM.pc x 0 hf) ?_
              rintro e w1 ⟨rfl, hB1⟩
              have hB1' : Below w.heap.size w w1 := hwd.trans hB1
              have c0 := (hM.below hB1').cpc
              have c39 := (hM.below hB1').cmem))
  have hM1 := hM.below hB1'
  have hR1 := hR.below hB1'
  clear hf hB1 hwd c0 c39
  go_wp2_with fail
  refine Calls.mono (dec_st w1 hR1 x hx i hi) ?_
  rintro e w2 ⟨rfl, hB2⟩
  go_upto_region 5 with fail
  obtain ⟨w3, hw3⟩ : ∃ W : World, W = w2.alloc (.cells #[.int .i64 (i.op : Int), .int .i64 (i.rd : Int), .int .i64 (i.rs1 : Int), .int .i64 (i.rs2 : Int), .int .i64 i.imm] 26) := ⟨_, rfl⟩
  have hi0 : w3.heap[w2.heap.size]? = some (.cells #[.int .i64 (i.op : Int), .int .i64 (i.rd : Int), .int .i64 (i.rs1 : Int), .int .i64 (i.rs2 : Int), .int .i64 i.imm] 26 (0, 0)) := by rw [hw3]; exact heap_alloc_new w2 _
  have hB3 : Below w2.heap.size w2 w3 := by rw [hw3]; exact (Below.refl _ _).alloc (Nat.le_refl _) _
  rw [← hw3]
  clear hw3
  have hB : Below w.heap.size w w3 := hB1'.trans ((hB2.mono hB1'.size).trans (hB3.mono (Nat.le_trans hB1'.size hB2.size)))
  have hM3 := hM.below hB
  clear hM1 hR1 hB1' hB2 hB3 hR a0 a39 hi hx
  have i0 := (obj_cell hi0 0).trans rfl
  have i1 := (obj_cell hi0 1).trans rfl
  have i2 := (obj_cell hi0 2).trans rfl
  have i3 := (obj_cell hi0 3).trans rfl
  have i4 := (obj_cell hi0 4).trans rfl
  have a0 := hM3.cpc
  have r1 := hM3.creg i.rs1 b4
  have r2 := hM3.creg i.rs2 b5
  have n1 : (i.rs1 : Int) < 32 := by omega
  have n2 : (i.rs2 : Int) < 32 := by omega
  have n3 : (i.rd : Int) < 32 := by omega
  go_wp2_with fail
  go_quiet (fail)
  rw [show IntKind.u64.wrap i.imm = ((wrN i.imm : Nat) : Int) from (wrN_is _).symm, show IntKind.u64.wrap ((s.c.pc : Int) + 4) = ((nextPc s : Nat) : Int) from nextPc_is s]
  have rd := hM3.creg i.rd b3
  have fd := hM3.fz (1 + i.rd)
  have f0 := hM3.fz 0
  have e1 : ((i.op : Int) == 1) = false := eqF (b := 1) (by omega)
  have e2 : ((i.op : Int) == 2) = false := eqF (b := 2) (by omega)
  have e3 : ((i.op : Int) == 3) = false := eqF (b := 3) (by omega)
  have e4 : ((i.op : Int) == 4) = false := eqF (b := 4) (by omega)
  have e10 : decide ((i.op : Int) ≤ 10) = false := decide_eq_false (by omega)
  have e17 : decide ((i.op : Int) ≤ 17) = false := decide_eq_false (by omega)
  have e21 : decide ((i.op : Int) ≤ 21) = false := decide_eq_false (by omega)
  have e34 : decide ((i.op : Int) ≤ 34) = false := decide_eq_false (by omega)
  have e62 : decide ((i.op : Int) ≤ 62) = true := decide_eq_true (by omega)
  go_upto_region 34 with fail
  have HE := Lib.hid (show execM i s = (0, { s with c := s.c.put i.rd (aluV i.op (s.c.reg i.rs1) (s.c.reg i.rs2)).toNat (nextPc s) }) by unfold execM; rw [if_neg (by omega), if_neg (by omega), if_neg (by omega), if_neg (by omega), if_neg (by omega), if_neg (by omega), if_neg (by omega), if_neg (by omega), if_pos (by omega)])
  obtain ⟨hv, hvl⟩ := aluV_nat i.op (s.c.reg i.rs1) (s.c.reg i.rs2) (by omega) (by omega) (hM3.small _) (hM3.small _)
  obtain ⟨V, hV⟩ : ∃ V, V = (aluV i.op (s.c.reg i.rs1) (s.c.reg i.rs2)).toNat := ⟨_, rfl⟩
  rw [← hV] at hv hvl HE
  have hAl : ∀ W : World, Calls Tryz.prog 95 #[.int .i64 (i.op : Int), .int .u64 (s.c.reg i.rs1 : Nat), .int .u64 ((s.c.reg i.rs2) : Nat)] W fun e w' => e = .returned (.tuple #[.int .u64 (V : Int), .int .i64 0]) ∧ w' = W := fun W => by
    rw [← hv]; exact cAlu_in i.op (s.c.reg i.rs1) (s.c.reg i.rs2) (by omega) (by omega) (hM3.small _) (hM3.small _) W
  have HA := Lib.hid hAl
  clear hAl hv hV h1 h2
  go_region_law (first | (go_simp; go_at_call 95; refine Calls.mono (HA.out _) ?_; rintro e w' ⟨rfl, rfl⟩))
  all_goals
    go_wp2
    go_ret
    refine ⟨by rw [HE.out]; rfl, ov, ?_, ?_⟩
    · rw [HE.out]
      exact ((hM3.below (bdrewN (Below.refl _ _) _)).putReg i.rd V b3 hvl).putPc (nextPc s) (nextPc_lt s)
    · exact ⟨((KeptBut.of_below (bdrewN hB _)).setCell _ (.inl rfl) _).setCell _ (.inl rfl) _, fun g h => .inl h⟩
end Go.Proofs

/- (*cpu.Machine).step: the case Lui. -/
namespace Go.Proofs
open Go Go.RowKit Go.Pat
set_option maxRecDepth 20000 in
set_option maxHeartbeats 8000000 in
theorem step_Lui (w : World) (m p mb : Nat) (ov iv : Value) (s : Ms) (hM : MachAt w m p mb ov iv s) (hR : RvRows w) (x : Nat) (hf : fetchM s.fs s.c.pc = (x, 0)) (i : Ins) (hi : decR x = some i) (h1 : 1 ≤ i.op) (h2 : i.op ≤ 1) :
    Calls Tryz.prog 75 #[.pointer (some ⟨m, 0, none⟩)] w (StepTo m p mb ov iv s (execM i s) w) := by
  have hx : x < 4294967296 := by have := fetchM_lt s.fs s.c.pc; rw [hf] at this; exact this
  obtain ⟨b1, b2, b3, b4, b5⟩ := decR_some hi
  have a0 := hM.cpc
  have a39 := hM.cmem
  go_enter Tryz.func75, Tryz.ntmps75
  go_upto_region 1 with fail
  have hwd : Below w.heap.size w w.drew := (Below.refl _ _).drew
  go_region_held3 (fun w' => w'.cell? ⟨m, 0, none⟩ = some (.int .u64 (s.c.pc : Int)) ∧ w'.cell? ⟨m, 39, none⟩ = some (.pointer (some ⟨p, 0, none⟩)))
    (first | exact ⟨a0, a39⟩ | exact ⟨c0, c39⟩)
    (first | (go_at_call 90
              refine Calls.mono (Fetch_st w.drew p mb s.fs (hM.below hwd).mem s.c.pc hM.pc x 0 hf) ?_
              rintro e w1 ⟨rfl, hB1⟩
              have hB1' : Below w.heap.size w w1 := hwd.trans hB1
              have c0 := (hM.below hB1').cpc
              have c39 := (hM.below hB1').cmem))
  have hM1 := hM.below hB1'
  have hR1 := hR.below hB1'
  clear hf hB1 hwd c0 c39
  go_wp2_with fail
  refine Calls.mono (dec_st w1 hR1 x hx i hi) ?_
  rintro e w2 ⟨rfl, hB2⟩
  go_upto_region 5 with fail
  obtain ⟨w3, hw3⟩ : ∃ W : World, W = w2.alloc (.cells #[.int .i64 (i.op : Int), .int .i64 (i.rd : Int), .int .i64 (i.rs1 : Int), .int .i64 (i.rs2 : Int), .int .i64 i.imm] 26) := ⟨_, rfl⟩
  have hi0 : w3.heap[w2.heap.size]? = some (.cells #[.int .i64 (i.op : Int), .int .i64 (i.rd : Int), .int .i64 (i.rs1 : Int), .int .i64 (i.rs2 : Int), .int .i64 i.imm] 26 (0, 0)) := by rw [hw3]; exact heap_alloc_new w2 _
  have hB3 : Below w2.heap.size w2 w3 := by rw [hw3]; exact (Below.refl _ _).alloc (Nat.le_refl _) _
  rw [← hw3]
  clear hw3
  have hB : Below w.heap.size w w3 := hB1'.trans ((hB2.mono hB1'.size).trans (hB3.mono (Nat.le_trans hB1'.size hB2.size)))
  have hM3 := hM.below hB
  clear hM1 hR1 hB1' hB2 hB3 hR a0 a39 hi hx
  have i0 := (obj_cell hi0 0).trans rfl
  have i1 := (obj_cell hi0 1).trans rfl
  have i2 := (obj_cell hi0 2).trans rfl
  have i3 := (obj_cell hi0 3).trans rfl
  have i4 := (obj_cell hi0 4).trans rfl
  have a0 := hM3.cpc
  have r1 := hM3.creg i.rs1 b4
  have r2 := hM3.creg i.rs2 b5
  have n1 : (i.rs1 : Int) < 32 := by omega
  have n2 : (i.rs2 : Int) < 32 := by omega
  have n3 : (i.rd : Int) < 32 := by omega
  go_wp2_with fail
  go_quiet (fail)
  rw [show IntKind.u64.wrap i.imm = ((wrN i.imm : Nat) : Int) from (wrN_is _).symm, show IntKind.u64.wrap ((s.c.pc : Int) + 4) = ((nextPc s : Nat) : Int) from nextPc_is s]
  have rd := hM3.creg i.rd b3
  have fd := hM3.fz (1 + i.rd)
  have f0 := hM3.fz 0
  have e1 : ((i.op : Int) == 1) = true := eqT (b := 1) (by omega)
  go_upto_region 10 with fail
  have HE := Lib.hid (show execM i s = (0, { s with c := s.c.put i.rd (wrN i.imm * 4096 % 18446744073709551616) (nextPc s) }) by unfold execM; rw [if_pos (by omega)])
  go_region
  all_goals
    go_wp2
    go_ret
    rw [lui_is]
    refine ⟨by rw [HE.out]; rfl, ov, ?_, ?_⟩
    · rw [HE.out]
      exact ((hM3.below (bdrewN (Below.refl _ _) _)).putReg i.rd (wrN i.imm * 4096 % 18446744073709551616) b3 (mod64_lt _)).putPc (nextPc s) (nextPc_lt s)
    · exact ⟨((KeptBut.of_below (bdrewN hB _)).setCell _ (.inl rfl) _).setCell _ (.inl rfl) _, fun g h => .inl h⟩
end Go.Proofs

/- (*cpu.Machine).step: the case Aui. -/
namespace Go.Proofs
open Go Go.RowKit Go.Pat
set_option maxRecDepth 20000 in
set_option maxHeartbeats 8000000 in
theorem step_Aui (w : World) (m p mb : Nat) (ov iv : Value) (s : Ms) (hM : MachAt w m p mb ov iv s) (hR : RvRows w) (x : Nat) (hf : fetchM s.fs s.c.pc = (x, 0)) (i : Ins) (hi : decR x = some i) (h1 : 2 ≤ i.op) (h2 : i.op ≤ 2) :
    Calls Tryz.prog 75 #[.pointer (some ⟨m, 0, none⟩)] w (StepTo m p mb ov iv s (execM i s) w) := by
  have hx : x < 4294967296 := by have := fetchM_lt s.fs s.c.pc; rw [hf] at this; exact this
  obtain ⟨b1, b2, b3, b4, b5⟩ := decR_some hi
  have a0 := hM.cpc
  have a39 := hM.cmem
  go_enter Tryz.func75, Tryz.ntmps75
  go_upto_region 1 with fail
  have hwd : Below w.heap.size w w.drew := (Below.refl _ _).drew
  go_region_held3 (fun w' => w'.cell? ⟨m, 0, none⟩ = some (.int .u64 (s.c.pc : Int)) ∧ w'.cell? ⟨m, 39, none⟩ = some (.pointer (some ⟨p, 0, none⟩)))
    (first | exact ⟨a0, a39⟩ | exact ⟨c0, c39⟩)
    (first | (go_at_call 90
              refine Calls.mono (Fetch_st w.drew p mb s.fs (hM.below hwd).mem s.c.pc hM.pc x 0 hf) ?_
              rintro e w1 ⟨rfl, hB1⟩
              have hB1' : Below w.heap.size w w1 := hwd.trans hB1
              have c0 := (hM.below hB1').cpc
              have c39 := (hM.below hB1').cmem))
  have hM1 := hM.below hB1'
  have hR1 := hR.below hB1'
  clear hf hB1 hwd c0 c39
  go_wp2_with fail
  refine Calls.mono (dec_st w1 hR1 x hx i hi) ?_
  rintro e w2 ⟨rfl, hB2⟩
  go_upto_region 5 with fail
  obtain ⟨w3, hw3⟩ : ∃ W : World, W = w2.alloc (.cells #[.int .i64 (i.op : Int), .int .i64 (i.rd : Int), .int .i64 (i.rs1 : Int), .int .i64 (i.rs2 : Int), .int .i64 i.imm] 26) := ⟨_, rfl⟩
  have hi0 : w3.heap[w2.heap.size]? = some (.cells #[.int .i64 (i.op : Int), .int .i64 (i.rd : Int), .int .i64 (i.rs1 : Int), .int .i64 (i.rs2 : Int), .int .i64 i.imm] 26 (0, 0)) := by rw [hw3]; exact heap_alloc_new w2 _
  have hB3 : Below w2.heap.size w2 w3 := by rw [hw3]; exact (Below.refl _ _).alloc (Nat.le_refl _) _
  rw [← hw3]
  clear hw3
  have hB : Below w.heap.size w w3 := hB1'.trans ((hB2.mono hB1'.size).trans (hB3.mono (Nat.le_trans hB1'.size hB2.size)))
  have hM3 := hM.below hB
  clear hM1 hR1 hB1' hB2 hB3 hR a0 a39 hi hx
  have i0 := (obj_cell hi0 0).trans rfl
  have i1 := (obj_cell hi0 1).trans rfl
  have i2 := (obj_cell hi0 2).trans rfl
  have i3 := (obj_cell hi0 3).trans rfl
  have i4 := (obj_cell hi0 4).trans rfl
  have a0 := hM3.cpc
  have r1 := hM3.creg i.rs1 b4
  have r2 := hM3.creg i.rs2 b5
  have n1 : (i.rs1 : Int) < 32 := by omega
  have n2 : (i.rs2 : Int) < 32 := by omega
  have n3 : (i.rd : Int) < 32 := by omega
  go_wp2_with fail
  go_quiet (fail)
  rw [show IntKind.u64.wrap i.imm = ((wrN i.imm : Nat) : Int) from (wrN_is _).symm, show IntKind.u64.wrap ((s.c.pc : Int) + 4) = ((nextPc s : Nat) : Int) from nextPc_is s]
  have rd := hM3.creg i.rd b3
  have fd := hM3.fz (1 + i.rd)
  have f0 := hM3.fz 0
  have e1 : ((i.op : Int) == 1) = false := eqF (b := 1) (by omega)
  have e2 : ((i.op : Int) == 2) = true := eqT (b := 2) (by omega)
  go_upto_region 12 with fail
  have HE := Lib.hid (show execM i s = (0, { s with c := s.c.put i.rd ((s.c.pc + wrN i.imm * 4096) % 18446744073709551616) (nextPc s) }) by unfold execM; rw [if_neg (by omega), if_pos (by omega)])
  go_region
  all_goals
    go_wp2
    go_ret
    rw [aui_is]
    refine ⟨by rw [HE.out]; rfl, ov, ?_, ?_⟩
    · rw [HE.out]
      exact ((hM3.below (bdrewN (Below.refl _ _) _)).putReg i.rd ((s.c.pc + wrN i.imm * 4096) % 18446744073709551616) b3 (mod64_lt _)).putPc (nextPc s) (nextPc_lt s)
    · exact ⟨((KeptBut.of_below (bdrewN hB _)).setCell _ (.inl rfl) _).setCell _ (.inl rfl) _, fun g h => .inl h⟩
end Go.Proofs

/- (*cpu.Machine).step: the case Jal. -/
namespace Go.Proofs
open Go Go.RowKit Go.Pat
set_option maxRecDepth 20000 in
set_option maxHeartbeats 8000000 in
theorem step_Jal (w : World) (m p mb : Nat) (ov iv : Value) (s : Ms) (hM : MachAt w m p mb ov iv s) (hR : RvRows w) (x : Nat) (hf : fetchM s.fs s.c.pc = (x, 0)) (i : Ins) (hi : decR x = some i) (h1 : 3 ≤ i.op) (h2 : i.op ≤ 3) :
    Calls Tryz.prog 75 #[.pointer (some ⟨m, 0, none⟩)] w (StepTo m p mb ov iv s (execM i s) w) := by
  have hx : x < 4294967296 := by have := fetchM_lt s.fs s.c.pc; rw [hf] at this; exact this
  obtain ⟨b1, b2, b3, b4, b5⟩ := decR_some hi
  have a0 := hM.cpc
  have a39 := hM.cmem
  go_enter Tryz.func75, Tryz.ntmps75
  go_upto_region 1 with fail
  have hwd : Below w.heap.size w w.drew := (Below.refl _ _).drew
  go_region_held3 (fun w' => w'.cell? ⟨m, 0, none⟩ = some (.int .u64 (s.c.pc : Int)) ∧ w'.cell? ⟨m, 39, none⟩ = some (.pointer (some ⟨p, 0, none⟩)))
    (first | exact ⟨a0, a39⟩ | exact ⟨c0, c39⟩)
    (first | (go_at_call 90
              refine Calls.mono (Fetch_st w.drew p mb s.fs (hM.below hwd).mem s.c.pc hM.pc x 0 hf) ?_
              rintro e w1 ⟨rfl, hB1⟩
              have hB1' : Below w.heap.size w w1 := hwd.trans hB1
              have c0 := (hM.below hB1').cpc
              have c39 := (hM.below hB1').cmem))
  have hM1 := hM.below hB1'
  have hR1 := hR.below hB1'
  clear hf hB1 hwd c0 c39
  go_wp2_with fail
  refine Calls.mono (dec_st w1 hR1 x hx i hi) ?_
  rintro e w2 ⟨rfl, hB2⟩
  go_upto_region 5 with fail
  obtain ⟨w3, hw3⟩ : ∃ W : World, W = w2.alloc (.cells #[.int .i64 (i.op : Int), .int .i64 (i.rd : Int), .int .i64 (i.rs1 : Int), .int .i64 (i.rs2 : Int), .int .i64 i.imm] 26) := ⟨_, rfl⟩
  have hi0 : w3.heap[w2.heap.size]? = some (.cells #[.int .i64 (i.op : Int), .int .i64 (i.rd : Int), .int .i64 (i.rs1 : Int), .int .i64 (i.rs2 : Int), .int .i64 i.imm] 26 (0, 0)) := by rw [hw3]; exact heap_alloc_new w2 _
  have hB3 : Below w2.heap.size w2 w3 := by rw [hw3]; exact (Below.refl _ _).alloc (Nat.le_refl _) _
  rw [← hw3]
  clear hw3
  have hB : Below w.heap.size w w3 := hB1'.trans ((hB2.mono hB1'.size).trans (hB3.mono (Nat.le_trans hB1'.size hB2.size)))
  have hM3 := hM.below hB
  clear hM1 hR1 hB1' hB2 hB3 hR a0 a39 hi hx
  have i0 := (obj_cell hi0 0).trans rfl
  have i1 := (obj_cell hi0 1).trans rfl
  have i2 := (obj_cell hi0 2).trans rfl
  have i3 := (obj_cell hi0 3).trans rfl
  have i4 := (obj_cell hi0 4).trans rfl
  have a0 := hM3.cpc
  have r1 := hM3.creg i.rs1 b4
  have r2 := hM3.creg i.rs2 b5
  have n1 : (i.rs1 : Int) < 32 := by omega
  have n2 : (i.rs2 : Int) < 32 := by omega
  have n3 : (i.rd : Int) < 32 := by omega
  go_wp2_with fail
  go_quiet (fail)
  rw [show IntKind.u64.wrap i.imm = ((wrN i.imm : Nat) : Int) from (wrN_is _).symm, show IntKind.u64.wrap ((s.c.pc : Int) + 4) = ((nextPc s : Nat) : Int) from nextPc_is s]
  have rd := hM3.creg i.rd b3
  have fd := hM3.fz (1 + i.rd)
  have f0 := hM3.fz 0
  have e1 : ((i.op : Int) == 1) = false := eqF (b := 1) (by omega)
  have e2 : ((i.op : Int) == 2) = false := eqF (b := 2) (by omega)
  have e3 : ((i.op : Int) == 3) = true := eqT (b := 3) (by omega)
  go_upto_region 14 with fail
  have HE := Lib.hid (show execM i s = (0, { s with c := s.c.put i.rd (nextPc s) ((s.c.pc + wrN i.imm) % 18446744073709551616) }) by unfold execM; rw [if_neg (by omega), if_neg (by omega), if_pos (by omega)])
  go_region
  all_goals
    go_wp2
    go_ret
    rw [add_is]
    refine ⟨by rw [HE.out]; rfl, ov, ?_, ?_⟩
    · rw [HE.out]
      exact ((hM3.below (bdrewN (Below.refl _ _) _)).putReg i.rd (nextPc s) b3 (nextPc_lt s)).putPc ((s.c.pc + wrN i.imm) % 18446744073709551616) (mod64_lt _)
    · exact ⟨((KeptBut.of_below (bdrewN hB _)).setCell _ (.inl rfl) _).setCell _ (.inl rfl) _, fun g h => .inl h⟩
end Go.Proofs

/- (*cpu.Machine).step: the case Jalr. -/
namespace Go.Proofs
open Go Go.RowKit Go.Pat
set_option maxRecDepth 20000 in
set_option maxHeartbeats 8000000 in
theorem step_Jalr (w : World) (m p mb : Nat) (ov iv : Value) (s : Ms) (hM : MachAt w m p mb ov iv s) (hR : RvRows w) (x : Nat) (hf : fetchM s.fs s.c.pc = (x, 0)) (i : Ins) (hi : decR x = some i) (h1 : 4 ≤ i.op) (h2 : i.op ≤ 4) :
    Calls Tryz.prog 75 #[.pointer (some ⟨m, 0, none⟩)] w (StepTo m p mb ov iv s (execM i s) w) := by
  have hx : x < 4294967296 := by have := fetchM_lt s.fs s.c.pc; rw [hf] at this; exact this
  obtain ⟨b1, b2, b3, b4, b5⟩ := decR_some hi
  have a0 := hM.cpc
  have a39 := hM.cmem
  go_enter Tryz.func75, Tryz.ntmps75
  go_upto_region 1 with fail
  have hwd : Below w.heap.size w w.drew := (Below.refl _ _).drew
  go_region_held3 (fun w' => w'.cell? ⟨m, 0, none⟩ = some (.int .u64 (s.c.pc : Int)) ∧ w'.cell? ⟨m, 39, none⟩ = some (.pointer (some ⟨p, 0, none⟩)))
    (first | exact ⟨a0, a39⟩ | exact ⟨c0, c39⟩)
    (first | (go_at_call 90
              refine Calls.mono (Fetch_st w.drew p mb s.fs (hM.below hwd).mem s.c.pc hM.pc x 0 hf) ?_
              rintro e w1 ⟨rfl, hB1⟩
              have hB1' : Below w.heap.size w w1 := hwd.trans hB1
              have c0 := (hM.below hB1').cpc
              have c39 := (hM.below hB1').cmem))
  have hM1 := hM.below hB1'
  have hR1 := hR.below hB1'
  clear hf hB1 hwd c0 c39
  go_wp2_with fail
  refine Calls.mono (dec_st w1 hR1 x hx i hi) ?_
  rintro e w2 ⟨rfl, hB2⟩
  go_upto_region 5 with fail
  obtain ⟨w3, hw3⟩ : ∃ W : World, W = w2.alloc (.cells #[.int .i64 (i.op : Int), .int .i64 (i.rd : Int), .int .i64 (i.rs1 : Int), .int .i64 (i.rs2 : Int), .int .i64 i.imm] 26) := ⟨_, rfl⟩
  have hi0 : w3.heap[w2.heap.size]? = some (.cells #[.int .i64 (i.op : Int), .int .i64 (i.rd : Int), .int .i64 (i.rs1 : Int), .int .i64 (i.rs2 : Int), .int .i64 i.imm] 26 (0, 0)) := by rw [hw3]; exact heap_alloc_new w2 _
  have hB3 : Below w2.heap.size w2 w3 := by rw [hw3]; exact (Below.refl _ _).alloc (Nat.le_refl _) _
  rw [← hw3]
  clear hw3
  have hB : Below w.heap.size w w3 := hB1'.trans ((hB2.mono hB1'.size).trans (hB3.mono (Nat.le_trans hB1'.size hB2.size)))
  have hM3 := hM.below hB
  clear hM1 hR1 hB1' hB2 hB3 hR a0 a39 hi hx
  have i0 := (obj_cell hi0 0).trans rfl
  have i1 := (obj_cell hi0 1).trans rfl
  have i2 := (obj_cell hi0 2).trans rfl
  have i3 := (obj_cell hi0 3).trans rfl
  have i4 := (obj_cell hi0 4).trans rfl
  have a0 := hM3.cpc
  have r1 := hM3.creg i.rs1 b4
  have r2 := hM3.creg i.rs2 b5
  have n1 : (i.rs1 : Int) < 32 := by omega
  have n2 : (i.rs2 : Int) < 32 := by omega
  have n3 : (i.rd : Int) < 32 := by omega
  go_wp2_with fail
  go_quiet (fail)
  rw [show IntKind.u64.wrap i.imm = ((wrN i.imm : Nat) : Int) from (wrN_is _).symm, show IntKind.u64.wrap ((s.c.pc : Int) + 4) = ((nextPc s : Nat) : Int) from nextPc_is s]
  have rd := hM3.creg i.rd b3
  have fd := hM3.fz (1 + i.rd)
  have f0 := hM3.fz 0
  have e1 : ((i.op : Int) == 1) = false := eqF (b := 1) (by omega)
  have e2 : ((i.op : Int) == 2) = false := eqF (b := 2) (by omega)
  have e3 : ((i.op : Int) == 3) = false := eqF (b := 3) (by omega)
  have e4 : ((i.op : Int) == 4) = true := eqT (b := 4) (by omega)
  go_upto_region 17 with fail
  have HE := Lib.hid (show execM i s = (0, { s with c := s.c.put i.rd (nextPc s) ((s.c.reg i.rs1 + wrN i.imm) % 18446744073709551616 / 2 * 2) }) by unfold execM; rw [if_neg (by omega), if_neg (by omega), if_neg (by omega), if_pos (by omega)])
  go_region
  all_goals
    go_wp2
    go_ret
    rw [add_is, even_is _ (mod64_lt _)]
    refine ⟨by rw [HE.out]; rfl, ov, ?_, ?_⟩
    · rw [HE.out]
      exact ((hM3.below (bdrewN (Below.refl _ _) _)).putReg i.rd (nextPc s) b3 (nextPc_lt s)).putPc ((s.c.reg i.rs1 + wrN i.imm) % 18446744073709551616 / 2 * 2) (Nat.lt_of_le_of_lt (Nat.div_mul_le_self _ _) (mod64_lt _))
    · exact ⟨((KeptBut.of_below (bdrewN hB _)).setCell _ (.inl rfl) _).setCell _ (.inl rfl) _, fun g h => .inl h⟩
end Go.Proofs

/- (*cpu.Machine).step: the case Br. -/
namespace Go.Proofs
open Go Go.RowKit Go.Pat
set_option maxRecDepth 20000 in
set_option maxHeartbeats 8000000 in
theorem step_Br (w : World) (m p mb : Nat) (ov iv : Value) (s : Ms) (hM : MachAt w m p mb ov iv s) (hR : RvRows w) (x : Nat) (hf : fetchM s.fs s.c.pc = (x, 0)) (i : Ins) (hi : decR x = some i) (h1 : 5 ≤ i.op) (h2 : i.op ≤ 10) :
    Calls Tryz.prog 75 #[.pointer (some ⟨m, 0, none⟩)] w (StepTo m p mb ov iv s (execM i s) w) := by
  have hx : x < 4294967296 := by have := fetchM_lt s.fs s.c.pc; rw [hf] at this; exact this
  obtain ⟨b1, b2, b3, b4, b5⟩ := decR_some hi
  have a0 := hM.cpc
  have a39 := hM.cmem
  go_enter Tryz.func75, Tryz.ntmps75
  go_upto_region 1 with fail
  have hwd : Below w.heap.size w w.drew := (Below.refl _ _).drew
  go_region_held3 (fun w' => w'.cell? ⟨m, 0, none⟩ = some (.int .u64 (s.c.pc : Int)) ∧ w'.cell? ⟨m, 39, none⟩ = some (.pointer (some ⟨p, 0, none⟩)))
    (first | exact ⟨a0, a39⟩ | exact ⟨c0, c39⟩)
    (first | (go_at_call 90
              refine Calls.mono (Fetch_st w.drew p mb s.fs (hM.below hwd).mem s.c.pc hM.pc x 0 hf) ?_
              rintro e w1 ⟨rfl, hB1⟩
              have hB1' : Below w.heap.size w w1 := hwd.trans hB1
              have c0 := (hM.below hB1').cpc
              have c39 := (hM.below hB1').cmem))
  have hM1 := hM.below hB1'
  have hR1 := hR.below hB1'
  clear hf hB1 hwd c0 c39
  go_wp2_with fail
  refine Calls.mono (dec_st w1 hR1 x hx i hi) ?_
  rintro e w2 ⟨rfl, hB2⟩
  go_upto_region 5 with fail
  obtain ⟨w3, hw3⟩ : ∃ W : World, W = w2.alloc (.cells #[.int .i64 (i.op : Int), .int .i64 (i.rd : Int), .int .i64 (i.rs1 : Int), .int .i64 (i.rs2 : Int), .int .i64 i.imm] 26) := ⟨_, rfl⟩
  have hi0 : w3.heap[w2.heap.size]? = some (.cells #[.int .i64 (i.op : Int), .int .i64 (i.rd : Int), .int .i64 (i.rs1 : Int), .int .i64 (i.rs2 : Int), .int .i64 i.imm] 26 (0, 0)) := by rw [hw3]; exact heap_alloc_new w2 _
  have hB3 : Below w2.heap.size w2 w3 := by rw [hw3]; exact (Below.refl _ _).alloc (Nat.le_refl _) _
  rw [← hw3]
  clear hw3
  have hB : Below w.heap.size w w3 := hB1'.trans ((hB2.mono hB1'.size).trans (hB3.mono (Nat.le_trans hB1'.size hB2.size)))
  have hM3 := hM.below hB
  clear hM1 hR1 hB1' hB2 hB3 hR a0 a39 hi hx
  have i0 := (obj_cell hi0 0).trans rfl
  have i1 := (obj_cell hi0 1).trans rfl
  have i2 := (obj_cell hi0 2).trans rfl
  have i3 := (obj_cell hi0 3).trans rfl
  have i4 := (obj_cell hi0 4).trans rfl
  have a0 := hM3.cpc
  have r1 := hM3.creg i.rs1 b4
  have r2 := hM3.creg i.rs2 b5
  have n1 : (i.rs1 : Int) < 32 := by omega
  have n2 : (i.rs2 : Int) < 32 := by omega
  have n3 : (i.rd : Int) < 32 := by omega
  go_wp2_with fail
  go_quiet (fail)
  rw [show IntKind.u64.wrap i.imm = ((wrN i.imm : Nat) : Int) from (wrN_is _).symm, show IntKind.u64.wrap ((s.c.pc : Int) + 4) = ((nextPc s : Nat) : Int) from nextPc_is s]
  have rd := hM3.creg i.rd b3
  have fd := hM3.fz (1 + i.rd)
  have f0 := hM3.fz 0
  have e1 : ((i.op : Int) == 1) = false := eqF (b := 1) (by omega)
  have e2 : ((i.op : Int) == 2) = false := eqF (b := 2) (by omega)
  have e3 : ((i.op : Int) == 3) = false := eqF (b := 3) (by omega)
  have e4 : ((i.op : Int) == 4) = false := eqF (b := 4) (by omega)
  have e10 : decide ((i.op : Int) ≤ 10) = true := decide_eq_true (by omega)
  go_wp2_with fail
  refine Calls.mono (cTaken_any _ _ _ _) ?_
  rintro e w' ⟨rfl, rfl⟩
  cases hb : (takenV (i.op : Int) (s.c.reg i.rs1) (s.c.reg i.rs2)).1 with
  | true =>
    have HE := Lib.hid (show execM i s = (0, { s with c := { s.c with pc := ((s.c.pc + wrN i.imm) % 18446744073709551616) } }) by unfold execM; rw [if_neg (by omega), if_neg (by omega), if_neg (by omega), if_neg (by omega), if_pos (by omega), hb]; rfl)
    clear hb
    all_goals
      go_wp2
      go_ret
      rw [add_is]
      refine ⟨by rw [HE.out]; rfl, ov, ?_, ?_⟩
      · rw [HE.out]
        exact (hM3.below (bdrewN (Below.refl _ _) _)).putPc ((s.c.pc + wrN i.imm) % 18446744073709551616) (mod64_lt _)
      · exact ⟨(KeptBut.of_below (bdrewN hB _)).setCell _ (.inl rfl) _, fun g h => .inl h⟩
  | false =>
    have HE := Lib.hid (show execM i s = (0, { s with c := { s.c with pc := (nextPc s) } }) by unfold execM; rw [if_neg (by omega), if_neg (by omega), if_neg (by omega), if_neg (by omega), if_pos (by omega), hb]; rfl)
    clear hb
    all_goals
      go_wp2
      go_ret
      refine ⟨by rw [HE.out]; rfl, ov, ?_, ?_⟩
      · rw [HE.out]
        exact (hM3.below (bdrewN (Below.refl _ _) _)).putPc (nextPc s) (nextPc_lt s)
      · exact ⟨(KeptBut.of_below (bdrewN hB _)).setCell _ (.inl rfl) _, fun g h => .inl h⟩
end Go.Proofs

/- (*cpu.Machine).step: the case Fen. -/
namespace Go.Proofs
open Go Go.RowKit Go.Pat
set_option maxRecDepth 20000 in
set_option maxHeartbeats 8000000 in
theorem step_Fen (w : World) (m p mb : Nat) (ov iv : Value) (s : Ms) (hM : MachAt w m p mb ov iv s) (hR : RvRows w) (x : Nat) (hf : fetchM s.fs s.c.pc = (x, 0)) (i : Ins) (hi : decR x = some i) (h1 : 63 ≤ i.op) (h2 : i.op ≤ 63) :
    Calls Tryz.prog 75 #[.pointer (some ⟨m, 0, none⟩)] w (StepTo m p mb ov iv s (execM i s) w) := by
  have hx : x < 4294967296 := by have := fetchM_lt s.fs s.c.pc; rw [hf] at this; exact this
  obtain ⟨b1, b2, b3, b4, b5⟩ := decR_some hi
  have a0 := hM.cpc
  have a39 := hM.cmem
  go_enter Tryz.func75, Tryz.ntmps75
  go_upto_region 1 with fail
  have hwd : Below w.heap.size w w.drew := (Below.refl _ _).drew
  go_region_held3 (fun w' => w'.cell? ⟨m, 0, none⟩ = some (.int .u64 (s.c.pc : Int)) ∧ w'.cell? ⟨m, 39, none⟩ = some (.pointer (some ⟨p, 0, none⟩)))
    (first | exact ⟨a0, a39⟩ | exact ⟨c0, c39⟩)
    (first | (go_at_call 90
              refine Calls.mono (Fetch_st w.drew p mb s.fs (hM.below hwd).mem s.c.pc hM.pc x 0 hf) ?_
              rintro e w1 ⟨rfl, hB1⟩
              have hB1' : Below w.heap.size w w1 := hwd.trans hB1
              have c0 := (hM.below hB1').cpc
              have c39 := (hM.below hB1').cmem))
  have hM1 := hM.below hB1'
  have hR1 := hR.below hB1'
  clear hf hB1 hwd c0 c39
  go_wp2_with fail
  refine Calls.mono (dec_st w1 hR1 x hx i hi) ?_
  rintro e w2 ⟨rfl, hB2⟩
  go_upto_region 5 with fail
  obtain ⟨w3, hw3⟩ : ∃ W : World, W = w2.alloc (.cells #[.int .i64 (i.op : Int), .int .i64 (i.rd : Int), .int .i64 (i.rs1 : Int), .int .i64 (i.rs2 : Int), .int .i64 i.imm] 26) := ⟨_, rfl⟩
  have hi0 : w3.heap[w2.heap.size]? = some (.cells #[.int .i64 (i.op : Int), .int .i64 (i.rd : Int), .int .i64 (i.rs1 : Int), .int .i64 (i.rs2 : Int), .int .i64 i.imm] 26 (0, 0)) := by rw [hw3]; exact heap_alloc_new w2 _
  have hB3 : Below w2.heap.size w2 w3 := by rw [hw3]; exact (Below.refl _ _).alloc (Nat.le_refl _) _
  rw [← hw3]
  clear hw3
  have hB : Below w.heap.size w w3 := hB1'.trans ((hB2.mono hB1'.size).trans (hB3.mono (Nat.le_trans hB1'.size hB2.size)))
  have hM3 := hM.below hB
  clear hM1 hR1 hB1' hB2 hB3 hR a0 a39 hi hx
  have i0 := (obj_cell hi0 0).trans rfl
  have i1 := (obj_cell hi0 1).trans rfl
  have i2 := (obj_cell hi0 2).trans rfl
  have i3 := (obj_cell hi0 3).trans rfl
  have i4 := (obj_cell hi0 4).trans rfl
  have a0 := hM3.cpc
  have r1 := hM3.creg i.rs1 b4
  have r2 := hM3.creg i.rs2 b5
  have n1 : (i.rs1 : Int) < 32 := by omega
  have n2 : (i.rs2 : Int) < 32 := by omega
  have n3 : (i.rd : Int) < 32 := by omega
  go_wp2_with fail
  go_quiet (fail)
  rw [show IntKind.u64.wrap i.imm = ((wrN i.imm : Nat) : Int) from (wrN_is _).symm, show IntKind.u64.wrap ((s.c.pc : Int) + 4) = ((nextPc s : Nat) : Int) from nextPc_is s]
  have rd := hM3.creg i.rd b3
  have fd := hM3.fz (1 + i.rd)
  have f0 := hM3.fz 0
  have e1 : ((i.op : Int) == 1) = false := eqF (b := 1) (by omega)
  have e2 : ((i.op : Int) == 2) = false := eqF (b := 2) (by omega)
  have e3 : ((i.op : Int) == 3) = false := eqF (b := 3) (by omega)
  have e4 : ((i.op : Int) == 4) = false := eqF (b := 4) (by omega)
  have e10 : decide ((i.op : Int) ≤ 10) = false := decide_eq_false (by omega)
  have e17 : decide ((i.op : Int) ≤ 17) = false := decide_eq_false (by omega)
  have e21 : decide ((i.op : Int) ≤ 21) = false := decide_eq_false (by omega)
  have e34 : decide ((i.op : Int) ≤ 34) = false := decide_eq_false (by omega)
  have e62 : decide ((i.op : Int) ≤ 62) = false := decide_eq_false (by omega)
  have e65 : ((i.op : Int) == 65) = false := eqF (b := 65) (by omega)
  have e64 : ((i.op : Int) == 64) = false := eqF (b := 64) (by omega)
  have HE := Lib.hid (show execM i s = (0, { s with c := { s.c with pc := nextPc s } }) by unfold execM; rw [if_neg (by omega), if_neg (by omega), if_neg (by omega), if_neg (by omega), if_neg (by omega), if_neg (by omega), if_neg (by omega), if_neg (by omega), if_neg (by omega), if_neg (by omega), if_neg (by omega)])
  all_goals
    go_wp2
    go_ret
    refine ⟨by rw [HE.out]; rfl, ov, ?_, ?_⟩
    · rw [HE.out]
      exact (hM3.below (bdrewN (Below.refl _ _) _)).putPc (nextPc s) (nextPc_lt s)
    · exact ⟨(KeptBut.of_below (bdrewN hB _)).setCell _ (.inl rfl) _, fun g h => .inl h⟩
end Go.Proofs

/- (*cpu.Machine).step: the case Ebr. -/
namespace Go.Proofs
open Go Go.RowKit Go.Pat
set_option maxRecDepth 20000 in
set_option maxHeartbeats 8000000 in
theorem step_Ebr (w : World) (m p mb : Nat) (ov iv : Value) (s : Ms) (hM : MachAt w m p mb ov iv s) (hR : RvRows w) (x : Nat) (hf : fetchM s.fs s.c.pc = (x, 0)) (i : Ins) (hi : decR x = some i) (h1 : 65 ≤ i.op) (h2 : i.op ≤ 65) :
    Calls Tryz.prog 75 #[.pointer (some ⟨m, 0, none⟩)] w (StepTo m p mb ov iv s (execM i s) w) := by
  have hx : x < 4294967296 := by have := fetchM_lt s.fs s.c.pc; rw [hf] at this; exact this
  obtain ⟨b1, b2, b3, b4, b5⟩ := decR_some hi
  have a0 := hM.cpc
  have a39 := hM.cmem
  go_enter Tryz.func75, Tryz.ntmps75
  go_upto_region 1 with fail
  have hwd : Below w.heap.size w w.drew := (Below.refl _ _).drew
  go_region_held3 (fun w' => w'.cell? ⟨m, 0, none⟩ = some (.int .u64 (s.c.pc : Int)) ∧ w'.cell? ⟨m, 39, none⟩ = some (.pointer (some ⟨p, 0, none⟩)))
    (first | exact ⟨a0, a39⟩ | exact ⟨c0, c39⟩)
    (first | (go_at_call 90
              refine Calls.mono (Fetch_st w.drew p mb s.fs (hM.below hwd).mem s.c.pc hM.pc x 0 hf) ?_
              rintro e w1 ⟨rfl, hB1⟩
              have hB1' : Below w.heap.size w w1 := hwd.trans hB1
              have c0 := (hM.below hB1').cpc
              have c39 := (hM.below hB1').cmem))
  have hM1 := hM.below hB1'
  have hR1 := hR.below hB1'
  clear hf hB1 hwd c0 c39
  go_wp2_with fail
  refine Calls.mono (dec_st w1 hR1 x hx i hi) ?_
  rintro e w2 ⟨rfl, hB2⟩
  go_upto_region 5 with fail
  obtain ⟨w3, hw3⟩ : ∃ W : World, W = w2.alloc (.cells #[.int .i64 (i.op : Int), .int .i64 (i.rd : Int), .int .i64 (i.rs1 : Int), .int .i64 (i.rs2 : Int), .int .i64 i.imm] 26) := ⟨_, rfl⟩
  have hi0 : w3.heap[w2.heap.size]? = some (.cells #[.int .i64 (i.op : Int), .int .i64 (i.rd : Int), .int .i64 (i.rs1 : Int), .int .i64 (i.rs2 : Int), .int .i64 i.imm] 26 (0, 0)) := by rw [hw3]; exact heap_alloc_new w2 _
  have hB3 : Below w2.heap.size w2 w3 := by rw [hw3]; exact (Below.refl _ _).alloc (Nat.le_refl _) _
  rw [← hw3]
  clear hw3
  have hB : Below w.heap.size w w3 := hB1'.trans ((hB2.mono hB1'.size).trans (hB3.mono (Nat.le_trans hB1'.size hB2.size)))
  have hM3 := hM.below hB
  clear hM1 hR1 hB1' hB2 hB3 hR a0 a39 hi hx
  have i0 := (obj_cell hi0 0).trans rfl
  have i1 := (obj_cell hi0 1).trans rfl
  have i2 := (obj_cell hi0 2).trans rfl
  have i3 := (obj_cell hi0 3).trans rfl
  have i4 := (obj_cell hi0 4).trans rfl
  have a0 := hM3.cpc
  have r1 := hM3.creg i.rs1 b4
  have r2 := hM3.creg i.rs2 b5
  have n1 : (i.rs1 : Int) < 32 := by omega
  have n2 : (i.rs2 : Int) < 32 := by omega
  have n3 : (i.rd : Int) < 32 := by omega
  go_wp2_with fail
  go_quiet (fail)
  rw [show IntKind.u64.wrap i.imm = ((wrN i.imm : Nat) : Int) from (wrN_is _).symm, show IntKind.u64.wrap ((s.c.pc : Int) + 4) = ((nextPc s : Nat) : Int) from nextPc_is s]
  have rd := hM3.creg i.rd b3
  have fd := hM3.fz (1 + i.rd)
  have f0 := hM3.fz 0
  have e1 : ((i.op : Int) == 1) = false := eqF (b := 1) (by omega)
  have e2 : ((i.op : Int) == 2) = false := eqF (b := 2) (by omega)
  have e3 : ((i.op : Int) == 3) = false := eqF (b := 3) (by omega)
  have e4 : ((i.op : Int) == 4) = false := eqF (b := 4) (by omega)
  have e10 : decide ((i.op : Int) ≤ 10) = false := decide_eq_false (by omega)
  have e17 : decide ((i.op : Int) ≤ 17) = false := decide_eq_false (by omega)
  have e21 : decide ((i.op : Int) ≤ 21) = false := decide_eq_false (by omega)
  have e34 : decide ((i.op : Int) ≤ 34) = false := decide_eq_false (by omega)
  have e62 : decide ((i.op : Int) ≤ 62) = false := decide_eq_false (by omega)
  have e65 : ((i.op : Int) == 65) = true := eqT (b := 65) (by omega)
  have HE := Lib.hid (show execM i s = (34, s) by unfold execM; rw [if_neg (by omega), if_neg (by omega), if_neg (by omega), if_neg (by omega), if_neg (by omega), if_neg (by omega), if_neg (by omega), if_neg (by omega), if_neg (by omega), if_pos (by omega)])
  all_goals
    go_wp2
    go_ret
    refine ⟨by rw [HE.out]; rfl, ov, ?_, ?_⟩
    · rw [HE.out]
      exact (hM3.below (bdrewN (Below.refl _ _) _))
    · exact ⟨(KeptBut.of_below (bdrewN hB _)), fun g h => .inl h⟩
end Go.Proofs

/- (*cpu.Machine).call: an ecall. -/
namespace Go.Proofs
open Go Go.RowKit Go.Pat
def CallTo (m p mb : Nat) (ov iv : Value) (s : Ms) (w : World) (e : Ending) (w' : World) : Prop :=
  e = .returned (.int .i64 (callM s).1) ∧ ∃ ov', MachAt w' m p mb ov' iv (callM s).2 ∧ KeptBut (mine m s.fs ov) w w' ∧ (∀ g, ov'.ownBlock = some g → ov.ownBlock = some g ∨ w.heap.size ≤ g) ∧ ((callM s).1 ≠ 0 → (callM s).2 = s)
theorem and255 (b : Nat) (hb : b < 18446744073709551616) : bits .and .u64 (b : Int) 255 = ((b % 256 : Nat) : Int) := by
  have h := bits_and_u64_nat b 255 hb (by omega)
  have e : b &&& 255 = b % 256 := Nat.and_two_pow_sub_one_eq_mod b 8
  rw [e] at h
  exact h
set_option maxHeartbeats 4000000 in
theorem call_exit (w : World) (m p mb : Nat) (ov iv : Value) (s : Ms) (hM : MachAt w m p mb ov iv s) (h : s.c.reg 17 = 93) :
    Calls Tryz.prog 96 #[.pointer (some ⟨m, 0, none⟩)] w (CallTo m p mb ov iv s w) := by
  have HE := Lib.hid (show callM s = (0, { s with c := { s.c with halted := true, code := ((s.c.reg 10 % 256 : Nat) : Int) } }) by unfold callM; rw [if_neg (by omega), if_neg (by omega), if_pos h])
  have r17 := hM.creg 17 (by decide)
  rw [h] at r17
  have r10 := hM.creg 10 (by decide)
  have q3 := hM.chalted
  have q4 := hM.ccode
  have f3 := hM.fz 34
  have f4 := hM.fz 35
  have HA := Lib.hid (and255 _ (hM.small 10))
  clear h
  go_enter Tryz.func96, Tryz.ntmps96
  go_wp2
  go_ret
  rw [show wrap64 (bits BinOp.and IntKind.u64 ((s.c.reg 10 : Nat) : Int) 255) = ((s.c.reg 10 % 256 : Nat) : Int) by rw [HA.out, wrap64]; omega]
  refine ⟨by rw [HE.out]; rfl, ov, ?_, ((KeptBut.refl _ _).setCell _ (.inl rfl) _).setCell _ (.inl rfl) _, fun g h => .inl h, fun h => absurd (by rw [HE.out]) h⟩
  rw [HE.out]
  exact (hM.putHalted true).putCode _
set_option maxHeartbeats 4000000 in
theorem call_other (w : World) (m p mb : Nat) (ov iv : Value) (s : Ms) (hM : MachAt w m p mb ov iv s) (h1 : s.c.reg 17 ≠ 63) (h2 : s.c.reg 17 ≠ 64) (h3 : s.c.reg 17 ≠ 93) :
    Calls Tryz.prog 96 #[.pointer (some ⟨m, 0, none⟩)] w (CallTo m p mb ov iv s w) := by
  have HE := Lib.hid (show callM s = (34, s) by unfold callM; rw [if_neg h1, if_neg h2, if_neg h3])
  have r17 := hM.creg 17 (by decide)
  have e1 : (((s.c.reg 17 : Nat) : Int) == 63) = false := eqF (b := 63) h1
  have e2 : (((s.c.reg 17 : Nat) : Int) == 64) = false := eqF (b := 64) h2
  have e3 : (((s.c.reg 17 : Nat) : Int) == 93) = false := eqF (b := 93) h3
  clear h1 h2 h3
  go_enter Tryz.func96, Tryz.ntmps96
  go_wp2
  go_ret
  refine ⟨by rw [HE.out]; rfl, ov, ?_, KeptBut.refl _ _, fun g h => .inl h, fun _ => by rw [HE.out]⟩
  rw [HE.out]
  exact hM
set_option maxHeartbeats 4000000 in
theorem call_end (w : World) (m p mb : Nat) (ov iv : Value) (s : Ms) (hM : MachAt w m p mb ov iv s) (h : s.c.reg 17 = 63) (hlt : ¬ s.c.inn < s.inp.length) :
    Calls Tryz.prog 96 #[.pointer (some ⟨m, 0, none⟩)] w (CallTo m p mb ov iv s w) := by
  have HE := Lib.hid (show callM s = (0, { s with c := { s.c with regs := s.c.regs.set 10 18446744073709551615 } }) by unfold callM; rw [if_pos h, if_neg hlt])
  have r17 := hM.creg 17 (by decide)
  rw [h] at r17
  have r10 := hM.creg 10 (by decide)
  have f10 := hM.fz (1 + 10)
  have q38 := hM.cin
  have q40 := hM.cinp
  obtain ⟨A, c, rfl, _⟩ := hM.inn.form
  have td : decide (s.c.inn < (s.inp.length : Int)) = false := decide_eq_false hlt
  clear h hlt
  go_enter Tryz.func96, Tryz.ntmps96
  go_wp2_with fail
  have k38 : (w.setCell ⟨m, 1 + 10, none⟩ (.int .u64 18446744073709551615)).cell? ⟨m, 38, none⟩ = some (.int .i64 s.c.inn) := (hM.putReg 10 18446744073709551615 (by decide) (by decide)).cin
  have k40 := (hM.putReg 10 18446744073709551615 (by decide) (by decide)).cinp
  go_quiet (fail)
  go_wp2
  go_ret
  refine ⟨by rw [HE.out]; rfl, ov, ?_, ?_, fun g h => .inl h, fun h => absurd (by rw [HE.out]) h⟩
  · rw [HE.out]
    exact (hM.putReg 10 18446744073709551615 (by decide) (by decide)).below (bdrewN (Below.refl _ _) _)
  · exact ((KeptBut.refl _ _).setCell _ (.inl rfl) _).trans (.of_below (bdrewN (Below.refl _ _) _))
set_option maxHeartbeats 4000000 in
theorem call_read (w : World) (m p mb : Nat) (ov iv : Value) (s : Ms) (hM : MachAt w m p mb ov iv s) (h : s.c.reg 17 = 63) (hlt : s.c.inn < s.inp.length) :
    Calls Tryz.prog 96 #[.pointer (some ⟨m, 0, none⟩)] w (CallTo m p mb ov iv s w) := by
  obtain ⟨k, hk⟩ : ∃ k : Nat, s.c.inn = (k : Int) := ⟨s.c.inn.toNat, by have := hM.rng; omega⟩
  have hkl : k < s.inp.length := by omega
  obtain ⟨v, hv⟩ : ∃ v : Nat, v = (s.inp.getD k 0).toNat := ⟨_, rfl⟩
  have hvl : v < 256 := by rw [hv]; exact (s.inp.getD k 0).toNat_lt
  have HE := Lib.hid (show callM s = (0, { s with c := { s.c with regs := s.c.regs.set 10 v, inn := (k : Int) + 1 } }) by unfold callM; rw [if_pos h, if_pos hlt, hk, hv]; rfl)
  have r17 := hM.creg 17 (by decide)
  rw [h] at r17
  have r10 := hM.creg 10 (by decide)
  have f10 := hM.fz (1 + 10)
  have f38 := hM.fz 38
  have q38 := hM.cin
  rw [hk] at q38
  have q40 := hM.cinp
  obtain ⟨A, c, rfl, hbs⟩ := hM.inn.form
  obtain ⟨b, o, rfl, hb, hcell⟩ := hbs.at_ k hkl
  have hgv : (s.inp[k]).toNat = v := by rw [hv, List.getD_eq_getElem?_getD, List.getElem?_eq_getElem hkl]; rfl
  rw [hgv] at hcell
  have hbig : s.inp.length ≤ 9223372036854775807 := by
    rcases hM.inn.2 with ⟨_, h0⟩ | ⟨_, cap, _, _, _, _, h1, h2, _⟩
    · omega
    · simp only [maxLen] at h2; omega
  obtain ⟨N, hN⟩ : ∃ N, N = s.inp.length := ⟨_, rfl⟩
  rw [← hN] at q40
  have td : decide ((k : Int) < (N : Int)) = true := decide_eq_true (by omega)
  have hkN : (k : Int) < (N : Int) := by omega
  clear h hlt hv hgv
  go_enter Tryz.func96, Tryz.ntmps96
  go_wp2_with fail
  obtain ⟨W1, hW1⟩ : ∃ W1 : World, W1 = w.setCell ⟨m, 11, none⟩ (.int .u64 18446744073709551615) := ⟨_, rfl⟩
  have hM1 : MachAt W1 m p mb ov (.slice (some ⟨b, o, none⟩) N c) { s with c := { s.c with regs := s.c.regs.set 10 18446744073709551615 } } := by
    rw [hW1, hN]; exact hM.putReg 10 18446744073709551615 (by decide) (by decide)
  have hK1 : KeptBut (mine m s.fs ov) w W1 := by rw [hW1]; exact (KeptBut.refl _ _).setCell _ (.inl rfl) _
  have hc1 : W1.cell? ⟨b, o + k, none⟩ = some (.int .u8 (v : Int)) := by
    obtain ⟨_, cur, hcur⟩ := hM.inn.block (g := b) rfl
    rw [hW1]
    exact (World.cell?_of_block (keep_set w m 11 _ b (mach_ne_u8 hM hcur))).trans hcell
  have p38 : W1.cell? ⟨m, 38, none⟩ = some (.int .i64 (k : Int)) := by have := hM1.cin; rw [hk] at this; exact this
  have p40 := hM1.cinp
  have p10 := hM1.creg 10 (by decide)
  have g10 := hM1.fz (1 + 10)
  have g38 := hM1.fz 38
  rw [← hW1]
  clear hW1 r17 r10 f10 f38 q38 q40 hcell
  go_quiet (fail)
  go_wp2_with fail
  go_region
  all_goals
    go_wp2
    go_ret
    try rw [show wrap64 ((k : Int) + 1) = (k : Int) + 1 by rw [wrap64]; omega]
    refine ⟨by rw [HE.out]; rfl, ov, ?_, ?_, fun g h => .inl h, fun h => absurd (by rw [HE.out]) h⟩
    · rw [HE.out]
      have h2 := ((hM1.below (bdrewN (Below.refl _ _) (nq + 1))).putReg 10 v (by decide) (by omega)).putIn ((k : Int) + 1) (show 0 ≤ (k : Int) + 1 ∧ (k : Int) + 1 ≤ s.inp.length by omega)
      simp only [List.set_set] at h2
      rw [hN] at h2
      exact h2
    · exact (((hK1.trans (.of_below (bdrewN (Below.refl _ _) (nq + 1)))).setCell _ (.inl rfl) _).setCell _ (.inl rfl) _)
theorem MachAt.append {w w4 : World} {m p mb : Nat} {ov iv v' : Value} {s : Ms} {c : UInt8} (h : MachAt w m p mb ov iv s) (h1 : w4.ownsRow 0 5 1 v' (s.c.out.length + 1) (bcells s.c.out ++ bcells [c])) (hg : w.grownBy w4 ov.ownBlock)
    (hat : v'.ownBlock = ov.ownBlock ∨ v'.ownBlock = some w.heap.size) : MachAt (w4.setCell ⟨m, 37, none⟩ v') m p mb v' iv { s with c := { s.c with out := s.c.out ++ [c] } } := by
  have hne : ∀ g, ov.ownBlock = some g → g ≠ m ∧ g ≠ p ∧ g ≠ mb := fun g e => by
    obtain ⟨_, cur, hc⟩ := h.out.block e
    exact ⟨mach_ne_u8 h hc, by rintro rfl; have := h.mem.str.symm.trans hc; simp at this, by rintro rfl; have := h.mem.map.symm.trans hc; simp at this⟩
  have hk : ∀ k, k < w.heap.size → ov.ownBlock ≠ some k → k ≠ m → (w4.setCell ⟨m, 37, none⟩ v').heap[k]? = w.heap[k]? := fun k h1 h2 h3 => (keep_set w4 m 37 v' k h3).trans (hg.block k h1 (fun e => h2 e.symm))
  have hmk : w4.heap[m]? = some (.cells (mcells s.c ov (.pointer (some ⟨p, 0, none⟩)) iv).toArray 118 (0, 0)) := (hg.block m h.lt (fun e => (hne m e.symm).1 rfl)).trans h.cells
  have e1 : p ≠ m := by rintro rfl; have := h.cells.symm.trans h.mem.str; simp at this
  have e2 : mb ≠ m := by rintro rfl; have := h.cells.symm.trans h.mem.map; simp at this
  have hvm : ∀ g, v'.ownBlock = some g → g ≠ m := fun g hv => by
    rcases hat with e | e
    · exact (hne g (e ▸ hv)).1
    · rw [e] at hv; have := h.lt; obtain rfl := Option.some.inj hv; omega
  refine ⟨?_, h.mem.keep (hk _ (lt_of_block h.mem.str) (fun e => (hne p e).2.1 rfl) e1) (hk _ (lt_of_block h.mem.map) (fun e => (hne mb e).2.2 rfl) e2) (fun f hf => ?_), h.len, h.small, h.pc, ?_, ?_, h.rng, ?_, ?_⟩
  · rw [obj_set hmk 37 v', List.setIfInBounds_toArray, mset_out h.len v' (s.c.out ++ [c])]
  · obtain ⟨_, _, _, cur, hcur, _⟩ := h.mem.pages f hf
    exact hk _ (lt_of_block hcur) (fun e => h.apO _ e (List.mem_map.2 ⟨f, hf, rfl⟩)) (mach_ne_u8 h hcur)
  · have h2 : OwnB w4 0 v' (s.c.out ++ [c]) := by
      unfold OwnB
      rw [List.length_append, bcells_append]
      exact h1
    exact h2.keep fun g hv => keep_set w4 m 37 v' g (hvm g hv)
  · exact h.inn.keep fun g hv => by
      obtain ⟨_, cur, hc⟩ := h.inn.block hv
      exact hk _ (lt_of_block hc) (h.apI g hv).2 (mach_ne_u8 h hc)
  · intro g hv hm
    rcases hat with e | e
    · exact h.apO g (e ▸ hv) hm
    · rw [e] at hv
      obtain rfl := Option.some.inj hv
      obtain ⟨f, hf, e3⟩ := List.mem_map.1 hm
      obtain ⟨_, _, _, cur, hcur, _⟩ := h.mem.pages f hf
      have := lt_of_block hcur
      omega
  · intro g hv
    refine ⟨(h.apI g hv).1, fun e3 => ?_⟩
    rcases hat with e | e
    · exact (h.apI g hv).2 (e ▸ e3)
    · rw [e] at e3
      obtain rfl := Option.some.inj e3
      obtain ⟨_, cur, hc⟩ := h.inn.block hv
      have := lt_of_block hc
      omega
set_option maxRecDepth 20000 in
set_option maxHeartbeats 8000000 in
theorem call_put (w : World) (m p mb : Nat) (ov iv : Value) (s : Ms) (hM : MachAt w m p mb ov iv s) (h : s.c.reg 17 = 64) (hroom : s.c.out.length + 1 ≤ 140737488355328) :
    Calls Tryz.prog 96 #[.pointer (some ⟨m, 0, none⟩)] w (CallTo m p mb ov iv s w) := by
  obtain ⟨c, hc⟩ : ∃ c : UInt8, c = UInt8.ofNat (s.c.reg 10) := ⟨_, rfl⟩
  have hcv : IntKind.u8.wrap ((s.c.reg 10 : Nat) : Int) = (c.toNat : Int) := by rw [IntKind.wrap_u8, hc, UInt8.toNat_ofNat']; omega
  have HE := Lib.hid (show callM s = (0, { s with c := { s.c with out := s.c.out ++ [c] } }) by unfold callM; rw [if_neg (by omega), if_pos h, hc])
  have HC := Lib.hid hcv
  clear hc hcv
  have r17 := hM.creg 17 (by decide)
  rw [h] at r17
  have r10 := hM.creg 10 (by decide)
  have q37 := hM.cout
  have f37 := hM.fz 37
  clear h
  go_enter Tryz.func96, Tryz.ntmps96
  go_wp2_with fail
  have hal : Below w.heap.size w (w.alloc (.cells #[.int .u8 (IntKind.u8.wrap ((s.c.reg 10 : Nat) : Int))] 5)).drew := ((Below.refl _ _).alloc (Nat.le_refl _) _).drew
  have hMa := hM.below hal
  have hsz : (w.alloc (.cells #[.int .u8 (IntKind.u8.wrap ((s.c.reg 10 : Nat) : Int))] 5)).drew.heap.size = w.heap.size + 1 := World.size_alloc _ _
  have hli := (lit_bs w _ c 5 HC.out).below (Below.refl _ _).drew
  have jA : ∀ o, (w.alloc o).cell? ⟨m, 37, none⟩ = some ov := fun o => (World.cell?_alloc_lt w _ ⟨m, 37, none⟩ hM.lt).trans q37
  have jF : ∀ o, (w.alloc o).frozen? ⟨m, 37, none⟩ = false := fun o => (hM.below ((Below.refl _ _).alloc (Nat.le_refl _) o)).fz 37
  go_region_law (first
    | (refine step_app rfl (.tmp 60) (.tmp 68) 35 rfl Tryz_elU8 0 ov s.c.out.length (bcells s.c.out) (by exact rfl) hMa.out _ (some ⟨w.heap.size, 0, none⟩) 1 1 (bcells [c]) (by exact rfl) rfl hli (bcells_one _) (by simp only [maxLen]; omega) (by omega) (Nat.zero_le _) ?_
       intro v' w4 h1 hg hnil hat
       have hmk : w4.heap[m]? = _ := (hg.block m (by rw [hsz]; have := hM.lt; omega) (fun e => by obtain ⟨_, cur, hcu⟩ := hMa.out.block e.symm; exact mach_ne_u8 hMa hcu rfl)).trans hMa.cells
       have k37 : w4.cell? ⟨m, 37, none⟩ = some ov := (obj_cell hmk 37).trans ((obj_cell hMa.cells 37).symm.trans hMa.cout)
       have g37 := obj_frozen hmk 37
       have h2 : OwnB w4 0 v' (s.c.out ++ [c]) := by
         unfold OwnB
         rw [List.length_append, bcells_append]
         exact h1
       obtain ⟨A3, c3, rfl, _⟩ := h2.form))
  all_goals
    go_wp2
    go_ret
    have hll : (s.c.out ++ [c]).length = s.c.out.length + 1 := by simp
    rw [hll] at h1 hat
    refine ⟨by rw [HE.out]; rfl, .slice A3 (s.c.out.length + 1 : Nat) c3, ?_, ?_, fun g h => ?_, fun h => absurd (by rw [HE.out]) h⟩
    · rw [HE.out]
      exact hMa.append h1 hg hat
    · refine KeptBut.setCell (KeptBut.trans (.of_below hal) ⟨hg.os, hg.tape, hg.output, hg.size, fun k hk hn => hg.block k hk (fun e => hn (.inr (.inr e.symm)))⟩) _ (.inl rfl) _
    · rcases hat with e | e
      · exact .inl (e ▸ h)
      · rw [e, hsz] at h
        obtain rfl := Option.some.inj h
        exact .inr (Nat.le_succ _)
/-- an ecall, whatever it asks for. -/
theorem call_any (w : World) (m p mb : Nat) (ov iv : Value) (s : Ms) (hM : MachAt w m p mb ov iv s) (hroom : s.c.out.length + 1 ≤ 140737488355328) :
    Calls Tryz.prog 96 #[.pointer (some ⟨m, 0, none⟩)] w (CallTo m p mb ov iv s w) := by
  by_cases h1 : s.c.reg 17 = 63
  · by_cases h : s.c.inn < s.inp.length
    · exact call_read w m p mb ov iv s hM h1 h
    · exact call_end w m p mb ov iv s hM h1 h
  · by_cases h2 : s.c.reg 17 = 64
    · exact call_put w m p mb ov iv s hM h2 hroom
    · by_cases h3 : s.c.reg 17 = 93
      · exact call_exit w m p mb ov iv s hM h3
      · exact call_other w m p mb ov iv s hM h1 h2 h3
end Go.Proofs

/- (*cpu.Machine).load and cpu.signed. -/
namespace Go.Pat
open Go Go.RowKit
theorem ldV_is (op v s : Nat) (hs : ldS op = s) : IntKind.u64.wrap ((wrap64 (IntKind.u64.wrap ((v : Int) * 2 ^ s))).fdiv (2 ^ s)) = ((ldV op v : Nat) : Int) := by unfold ldV; rw [hs, wrN_is]
theorem ldV_q (op v s : Nat) (c : Int) (hs : ldS op = s) (hc : (2 : Int) ^ s = c) (h0 : 0 ≤ c) : IntKind.u64.wrap (wrap64 (IntKind.u64.wrap ((v : Int) * c)) / c) = ((ldV op v : Nat) : Int) := by
  have := ldV_is op v s hs
  rw [hc, Int.fdiv_eq_ediv_of_nonneg _ h0] at this
  exact this
theorem ldV_el (op v : Nat) (h : 14 ≤ op) : IntKind.u64.wrap (wrap64 (IntKind.u64.wrap (v : Int))) = ((ldV op v : Nat) : Int) := by
  have := ldV_is op v 0 (by unfold ldS; rw [if_neg (by omega), if_neg (by omega), if_neg (by omega)])
  rw [Int.pow_zero, Int.mul_one, Int.fdiv_one] at this
  exact this
end Go.Pat
namespace Go.Proofs
open Go Go.RowKit Go.Pat
theorem csigned_k (op v : Nat) (h : op = 11 ∨ op = 12 ∨ op = 13) (w : World) : Calls Tryz.prog 108 #[.int .i64 (op : Int), .int .u64 v] w fun e w' => e = .returned (.int .u64 ((ldV op v : Nat) : Int)) ∧ w' = w := by
  rcases h with rfl | rfl | rfl
  · have s1 := fun (W : World) => run_shl (P := Tryz.prog) .u64 .i64 (v : Int) 56 56 rfl (by decide) W
    have s2 := fun (z : Int) (W : World) => run_shr (P := Tryz.prog) .i64 .i64 z 56 56 rfl (by decide) W
    have HX := Lib.hid (ldV_q 11 v 56 72057594037927936 rfl rfl (by decide))
    go_enter Tryz.func108, Tryz.ntmps108
    go_wp2
    go_ret
    refine ⟨congrArg (fun z => Ending.returned (Value.int IntKind.u64 z)) ?_, rfl⟩
    exact HX.out
  · have s1 := fun (W : World) => run_shl (P := Tryz.prog) .u64 .i64 (v : Int) 48 48 rfl (by decide) W
    have s2 := fun (z : Int) (W : World) => run_shr (P := Tryz.prog) .i64 .i64 z 48 48 rfl (by decide) W
    have HX := Lib.hid (ldV_q 12 v 48 281474976710656 rfl rfl (by decide))
    go_enter Tryz.func108, Tryz.ntmps108
    go_wp2
    go_ret
    refine ⟨congrArg (fun z => Ending.returned (Value.int IntKind.u64 z)) ?_, rfl⟩
    exact HX.out
  · have s1 := fun (W : World) => run_shl (P := Tryz.prog) .u64 .i64 (v : Int) 32 32 rfl (by decide) W
    have s2 := fun (z : Int) (W : World) => run_shr (P := Tryz.prog) .i64 .i64 z 32 32 rfl (by decide) W
    have HX := Lib.hid (ldV_q 13 v 32 4294967296 rfl rfl (by decide))
    go_enter Tryz.func108, Tryz.ntmps108
    go_wp2
    go_ret
    refine ⟨congrArg (fun z => Ending.returned (Value.int IntKind.u64 z)) ?_, rfl⟩
    exact HX.out
theorem csigned_el (op v : Nat) (h : 14 ≤ op) (w : World) : Calls Tryz.prog 108 #[.int .i64 (op : Int), .int .u64 v] w fun e w' => e = .returned (.int .u64 ((ldV op v : Nat) : Int)) ∧ w' = w := by
  have s1 := fun (W : World) => run_shl (P := Tryz.prog) .u64 .i64 (v : Int) 0 0 rfl (by decide) W
  have s2 := fun (z : Int) (W : World) => run_shr (P := Tryz.prog) .i64 .i64 z 0 0 rfl (by decide) W
  have HX := Lib.hid (ldV_el op v h)
  have e1 : ((op : Int) == 11) = false := eqF (b := 11) (by omega)
  have e2 : ((op : Int) == 12) = false := eqF (b := 12) (by omega)
  have e3 : ((op : Int) == 13) = false := eqF (b := 13) (by omega)
  go_enter Tryz.func108, Tryz.ntmps108
  go_wp2
  go_ret
  refine ⟨congrArg (fun z => Ending.returned (Value.int IntKind.u64 z)) ?_, rfl⟩
  exact HX.out
theorem csigned_any (op v : Nat) (h1 : 11 ≤ op) (w : World) : Calls Tryz.prog 108 #[.int .i64 (op : Int), .int .u64 v] w fun e w' => e = .returned (.int .u64 ((ldV op v : Nat) : Int)) ∧ w' = w := by
  by_cases h : 14 ≤ op
  · exact csigned_el op v h w
  · exact csigned_k op v (by omega) w
theorem Load_st (w : World) (p mb : Nat) (fs : List Fr) (hM : MemAt w p mb fs) (at_ : Nat) (n : Int) (hat : at_ < 18446744073709551616) (q : Nat) (z : Int) (hq : loadM fs at_ n = (q, z)) :
    Calls Tryz.prog 107 #[.pointer (some ⟨p, 0, none⟩), .int .u64 at_, .int .i64 n] w fun e w' => e = .returned (.tuple #[.int .u64 (q : Int), .int .i64 z]) ∧ Below w.heap.size w w' := by
  have := Load_any w p mb fs hM at_ n hat
  rw [hq] at this
  exact this
theorem ldV_lt (op v : Nat) : ldV op v < 18446744073709551616 := wrN_lt _
def LoadTo (m p mb : Nat) (ov iv : Value) (s : Ms) (op rd at_ : Nat) (w : World) (e : Ending) (w' : World) : Prop :=
  e = .returned (.int .i64 (if (loadM s.fs at_ (ldN op)).2 = 0 then 0 else 32)) ∧
  MachAt w' m p mb ov iv (if (loadM s.fs at_ (ldN op)).2 = 0 then { s with c := { s.c with regs := s.c.regs.set rd (ldV op (loadM s.fs at_ (ldN op)).1) } } else s) ∧ KeptBut (mine m s.fs ov) w w'
set_option maxRecDepth 20000 in
set_option maxHeartbeats 4000000 in
theorem cload_11 (rd r1 r2 : Nat) (imm : Int) (w : World) (m p mb : Nat) (ov iv : Value) (s : Ms) (hM : MachAt w m p mb ov iv s) (at_ : Nat) (hat : at_ < 18446744073709551616) (hrd : rd < 32) :
    Calls Tryz.prog 93 #[.pointer (some ⟨m, 0, none⟩), .agg #[.int .i64 11, .int .i64 (rd : Int), .int .i64 (r1 : Int), .int .i64 (r2 : Int), .int .i64 imm], .int .u64 at_] w (LoadTo m p mb ov iv s 11 rd at_ w) := by
  obtain ⟨q, hq⟩ : ∃ q, q = (loadM s.fs at_ 1).1 := ⟨_, rfl⟩
  obtain ⟨z, hz⟩ : ∃ z, z = (loadM s.fs at_ 1).2 := ⟨_, rfl⟩
  have hqz : loadM s.fs at_ 1 = (q, z) := by rw [hq, hz]
  have HE := Lib.hid (show loadM s.fs at_ (ldN 11) = (q, z) from hqz)
  have HL := Lib.hid (fun W (h : MemAt W p mb s.fs) => Load_st W p mb s.fs h at_ 1 hat q z hqz)
  have HS := Lib.hid (fun W => csigned_any 11 q (by decide) W)
  clear hq hz hqz
  obtain ⟨w1, hw1⟩ : ∃ W : World, W = w.alloc (.cells #[.int .i64 11, .int .i64 (rd : Int), .int .i64 (r1 : Int), .int .i64 (r2 : Int), .int .i64 imm] 26) := ⟨_, rfl⟩
  have hi0 : w1.heap[w.heap.size]? = some (.cells #[.int .i64 11, .int .i64 (rd : Int), .int .i64 (r1 : Int), .int .i64 (r2 : Int), .int .i64 imm] 26 (0, 0)) := by rw [hw1]; exact heap_alloc_new w _
  have hB1 : Below w.heap.size w w1 := by rw [hw1]; exact (Below.refl _ _).alloc (Nat.le_refl _) _
  have HW := Lib.hid hw1
  clear hw1
  have hM1 := hM.below hB1
  have i0 := (obj_cell hi0 0).trans rfl
  have i1 := (obj_cell hi0 1).trans rfl
  have c39 := hM1.cmem
  go_enter Tryz.func93, Tryz.ntmps93
  go_upto_region 1 with fail
  rw [← HW.out]
  go_wp2_with fail
  refine Calls.mono (HL.out _ hM1.mem) ?_
  rintro e w2 ⟨rfl, hB2⟩
  have hB : Below w.heap.size w w2 := hB1.trans (hB2.mono hB1.size)
  have hM2 := hM.below hB
  have hi2 := (hB2.block _ (lt_of_block hi0)).trans hi0
  have j0 := (obj_cell hi2 0).trans rfl
  have j1 := (obj_cell hi2 1).trans rfl
  have n3 : (rd : Int) < 32 := by omega
  have cr := hM2.creg rd hrd
  have fr := hM2.fz (1 + rd)
  by_cases hz : z = 0
  · have tz : (z != 0) = false := by simp [hz]
    go_upto_region 7 with fail
    go_region_law (first | (go_simp; go_at_call 108; refine Calls.mono (HS.out _) ?_; rintro e w' ⟨rfl, rfl⟩))
    all_goals
      go_wp2
      go_ret
      refine ⟨?_, ?_, ?_⟩
      · rw [HE.out]; show _ = Ending.returned (.int .i64 (if z = 0 then 0 else 32)); rw [if_pos hz]; rfl
      · rw [HE.out]; show MachAt _ m p mb ov iv (if z = 0 then _ else s); rw [if_pos hz]
        exact (hM2.below (Below.refl _ _).drew).putReg rd _ hrd (ldV_lt _ _)
      · exact (KeptBut.of_below (hB.drew)).setCell _ (.inl rfl) _
  · have tz : (z != 0) = true := by simp [hz]
    go_wp2
    go_ret
    refine ⟨?_, ?_, KeptBut.of_below hB⟩
    · rw [HE.out]; show _ = Ending.returned (.int .i64 (if z = 0 then 0 else 32)); rw [if_neg hz]; rfl
    · rw [HE.out]; show MachAt _ m p mb ov iv (if z = 0 then _ else s); rw [if_neg hz]; exact hM2
set_option maxRecDepth 20000 in
set_option maxHeartbeats 4000000 in
theorem cload_12 (rd r1 r2 : Nat) (imm : Int) (w : World) (m p mb : Nat) (ov iv : Value) (s : Ms) (hM : MachAt w m p mb ov iv s) (at_ : Nat) (hat : at_ < 18446744073709551616) (hrd : rd < 32) :
    Calls Tryz.prog 93 #[.pointer (some ⟨m, 0, none⟩), .agg #[.int .i64 12, .int .i64 (rd : Int), .int .i64 (r1 : Int), .int .i64 (r2 : Int), .int .i64 imm], .int .u64 at_] w (LoadTo m p mb ov iv s 12 rd at_ w) := by
  obtain ⟨q, hq⟩ : ∃ q, q = (loadM s.fs at_ 2).1 := ⟨_, rfl⟩
  obtain ⟨z, hz⟩ : ∃ z, z = (loadM s.fs at_ 2).2 := ⟨_, rfl⟩
  have hqz : loadM s.fs at_ 2 = (q, z) := by rw [hq, hz]
  have HE := Lib.hid (show loadM s.fs at_ (ldN 12) = (q, z) from hqz)
  have HL := Lib.hid (fun W (h : MemAt W p mb s.fs) => Load_st W p mb s.fs h at_ 2 hat q z hqz)
  have HS := Lib.hid (fun W => csigned_any 12 q (by decide) W)
  clear hq hz hqz
  obtain ⟨w1, hw1⟩ : ∃ W : World, W = w.alloc (.cells #[.int .i64 12, .int .i64 (rd : Int), .int .i64 (r1 : Int), .int .i64 (r2 : Int), .int .i64 imm] 26) := ⟨_, rfl⟩
  have hi0 : w1.heap[w.heap.size]? = some (.cells #[.int .i64 12, .int .i64 (rd : Int), .int .i64 (r1 : Int), .int .i64 (r2 : Int), .int .i64 imm] 26 (0, 0)) := by rw [hw1]; exact heap_alloc_new w _
  have hB1 : Below w.heap.size w w1 := by rw [hw1]; exact (Below.refl _ _).alloc (Nat.le_refl _) _
  have HW := Lib.hid hw1
  clear hw1
  have hM1 := hM.below hB1
  have i0 := (obj_cell hi0 0).trans rfl
  have i1 := (obj_cell hi0 1).trans rfl
  have c39 := hM1.cmem
  go_enter Tryz.func93, Tryz.ntmps93
  go_upto_region 1 with fail
  rw [← HW.out]
  go_wp2_with fail
  refine Calls.mono (HL.out _ hM1.mem) ?_
  rintro e w2 ⟨rfl, hB2⟩
  have hB : Below w.heap.size w w2 := hB1.trans (hB2.mono hB1.size)
  have hM2 := hM.below hB
  have hi2 := (hB2.block _ (lt_of_block hi0)).trans hi0
  have j0 := (obj_cell hi2 0).trans rfl
  have j1 := (obj_cell hi2 1).trans rfl
  have n3 : (rd : Int) < 32 := by omega
  have cr := hM2.creg rd hrd
  have fr := hM2.fz (1 + rd)
  by_cases hz : z = 0
  · have tz : (z != 0) = false := by simp [hz]
    go_upto_region 7 with fail
    go_region_law (first | (go_simp; go_at_call 108; refine Calls.mono (HS.out _) ?_; rintro e w' ⟨rfl, rfl⟩))
    all_goals
      go_wp2
      go_ret
      refine ⟨?_, ?_, ?_⟩
      · rw [HE.out]; show _ = Ending.returned (.int .i64 (if z = 0 then 0 else 32)); rw [if_pos hz]; rfl
      · rw [HE.out]; show MachAt _ m p mb ov iv (if z = 0 then _ else s); rw [if_pos hz]
        exact (hM2.below (Below.refl _ _).drew).putReg rd _ hrd (ldV_lt _ _)
      · exact (KeptBut.of_below (hB.drew)).setCell _ (.inl rfl) _
  · have tz : (z != 0) = true := by simp [hz]
    go_wp2
    go_ret
    refine ⟨?_, ?_, KeptBut.of_below hB⟩
    · rw [HE.out]; show _ = Ending.returned (.int .i64 (if z = 0 then 0 else 32)); rw [if_neg hz]; rfl
    · rw [HE.out]; show MachAt _ m p mb ov iv (if z = 0 then _ else s); rw [if_neg hz]; exact hM2
set_option maxRecDepth 20000 in
set_option maxHeartbeats 4000000 in
theorem cload_13 (rd r1 r2 : Nat) (imm : Int) (w : World) (m p mb : Nat) (ov iv : Value) (s : Ms) (hM : MachAt w m p mb ov iv s) (at_ : Nat) (hat : at_ < 18446744073709551616) (hrd : rd < 32) :
    Calls Tryz.prog 93 #[.pointer (some ⟨m, 0, none⟩), .agg #[.int .i64 13, .int .i64 (rd : Int), .int .i64 (r1 : Int), .int .i64 (r2 : Int), .int .i64 imm], .int .u64 at_] w (LoadTo m p mb ov iv s 13 rd at_ w) := by
  obtain ⟨q, hq⟩ : ∃ q, q = (loadM s.fs at_ 4).1 := ⟨_, rfl⟩
  obtain ⟨z, hz⟩ : ∃ z, z = (loadM s.fs at_ 4).2 := ⟨_, rfl⟩
  have hqz : loadM s.fs at_ 4 = (q, z) := by rw [hq, hz]
  have HE := Lib.hid (show loadM s.fs at_ (ldN 13) = (q, z) from hqz)
  have HL := Lib.hid (fun W (h : MemAt W p mb s.fs) => Load_st W p mb s.fs h at_ 4 hat q z hqz)
  have HS := Lib.hid (fun W => csigned_any 13 q (by decide) W)
  clear hq hz hqz
  obtain ⟨w1, hw1⟩ : ∃ W : World, W = w.alloc (.cells #[.int .i64 13, .int .i64 (rd : Int), .int .i64 (r1 : Int), .int .i64 (r2 : Int), .int .i64 imm] 26) := ⟨_, rfl⟩
  have hi0 : w1.heap[w.heap.size]? = some (.cells #[.int .i64 13, .int .i64 (rd : Int), .int .i64 (r1 : Int), .int .i64 (r2 : Int), .int .i64 imm] 26 (0, 0)) := by rw [hw1]; exact heap_alloc_new w _
  have hB1 : Below w.heap.size w w1 := by rw [hw1]; exact (Below.refl _ _).alloc (Nat.le_refl _) _
  have HW := Lib.hid hw1
  clear hw1
  have hM1 := hM.below hB1
  have i0 := (obj_cell hi0 0).trans rfl
  have i1 := (obj_cell hi0 1).trans rfl
  have c39 := hM1.cmem
  go_enter Tryz.func93, Tryz.ntmps93
  go_upto_region 1 with fail
  rw [← HW.out]
  go_wp2_with fail
  refine Calls.mono (HL.out _ hM1.mem) ?_
  rintro e w2 ⟨rfl, hB2⟩
  have hB : Below w.heap.size w w2 := hB1.trans (hB2.mono hB1.size)
  have hM2 := hM.below hB
  have hi2 := (hB2.block _ (lt_of_block hi0)).trans hi0
  have j0 := (obj_cell hi2 0).trans rfl
  have j1 := (obj_cell hi2 1).trans rfl
  have n3 : (rd : Int) < 32 := by omega
  have cr := hM2.creg rd hrd
  have fr := hM2.fz (1 + rd)
  by_cases hz : z = 0
  · have tz : (z != 0) = false := by simp [hz]
    go_upto_region 7 with fail
    go_region_law (first | (go_simp; go_at_call 108; refine Calls.mono (HS.out _) ?_; rintro e w' ⟨rfl, rfl⟩))
    all_goals
      go_wp2
      go_ret
      refine ⟨?_, ?_, ?_⟩
      · rw [HE.out]; show _ = Ending.returned (.int .i64 (if z = 0 then 0 else 32)); rw [if_pos hz]; rfl
      · rw [HE.out]; show MachAt _ m p mb ov iv (if z = 0 then _ else s); rw [if_pos hz]
        exact (hM2.below (Below.refl _ _).drew).putReg rd _ hrd (ldV_lt _ _)
      · exact (KeptBut.of_below (hB.drew)).setCell _ (.inl rfl) _
  · have tz : (z != 0) = true := by simp [hz]
    go_wp2
    go_ret
    refine ⟨?_, ?_, KeptBut.of_below hB⟩
    · rw [HE.out]; show _ = Ending.returned (.int .i64 (if z = 0 then 0 else 32)); rw [if_neg hz]; rfl
    · rw [HE.out]; show MachAt _ m p mb ov iv (if z = 0 then _ else s); rw [if_neg hz]; exact hM2
set_option maxRecDepth 20000 in
set_option maxHeartbeats 4000000 in
theorem cload_14 (rd r1 r2 : Nat) (imm : Int) (w : World) (m p mb : Nat) (ov iv : Value) (s : Ms) (hM : MachAt w m p mb ov iv s) (at_ : Nat) (hat : at_ < 18446744073709551616) (hrd : rd < 32) :
    Calls Tryz.prog 93 #[.pointer (some ⟨m, 0, none⟩), .agg #[.int .i64 14, .int .i64 (rd : Int), .int .i64 (r1 : Int), .int .i64 (r2 : Int), .int .i64 imm], .int .u64 at_] w (LoadTo m p mb ov iv s 14 rd at_ w) := by
  obtain ⟨q, hq⟩ : ∃ q, q = (loadM s.fs at_ 8).1 := ⟨_, rfl⟩
  obtain ⟨z, hz⟩ : ∃ z, z = (loadM s.fs at_ 8).2 := ⟨_, rfl⟩
  have hqz : loadM s.fs at_ 8 = (q, z) := by rw [hq, hz]
  have HE := Lib.hid (show loadM s.fs at_ (ldN 14) = (q, z) from hqz)
  have HL := Lib.hid (fun W (h : MemAt W p mb s.fs) => Load_st W p mb s.fs h at_ 8 hat q z hqz)
  have HS := Lib.hid (fun W => csigned_any 14 q (by decide) W)
  clear hq hz hqz
  obtain ⟨w1, hw1⟩ : ∃ W : World, W = w.alloc (.cells #[.int .i64 14, .int .i64 (rd : Int), .int .i64 (r1 : Int), .int .i64 (r2 : Int), .int .i64 imm] 26) := ⟨_, rfl⟩
  have hi0 : w1.heap[w.heap.size]? = some (.cells #[.int .i64 14, .int .i64 (rd : Int), .int .i64 (r1 : Int), .int .i64 (r2 : Int), .int .i64 imm] 26 (0, 0)) := by rw [hw1]; exact heap_alloc_new w _
  have hB1 : Below w.heap.size w w1 := by rw [hw1]; exact (Below.refl _ _).alloc (Nat.le_refl _) _
  have HW := Lib.hid hw1
  clear hw1
  have hM1 := hM.below hB1
  have i0 := (obj_cell hi0 0).trans rfl
  have i1 := (obj_cell hi0 1).trans rfl
  have c39 := hM1.cmem
  go_enter Tryz.func93, Tryz.ntmps93
  go_upto_region 1 with fail
  rw [← HW.out]
  go_wp2_with fail
  refine Calls.mono (HL.out _ hM1.mem) ?_
  rintro e w2 ⟨rfl, hB2⟩
  have hB : Below w.heap.size w w2 := hB1.trans (hB2.mono hB1.size)
  have hM2 := hM.below hB
  have hi2 := (hB2.block _ (lt_of_block hi0)).trans hi0
  have j0 := (obj_cell hi2 0).trans rfl
  have j1 := (obj_cell hi2 1).trans rfl
  have n3 : (rd : Int) < 32 := by omega
  have cr := hM2.creg rd hrd
  have fr := hM2.fz (1 + rd)
  by_cases hz : z = 0
  · have tz : (z != 0) = false := by simp [hz]
    go_upto_region 7 with fail
    go_region_law (first | (go_simp; go_at_call 108; refine Calls.mono (HS.out _) ?_; rintro e w' ⟨rfl, rfl⟩))
    all_goals
      go_wp2
      go_ret
      refine ⟨?_, ?_, ?_⟩
      · rw [HE.out]; show _ = Ending.returned (.int .i64 (if z = 0 then 0 else 32)); rw [if_pos hz]; rfl
      · rw [HE.out]; show MachAt _ m p mb ov iv (if z = 0 then _ else s); rw [if_pos hz]
        exact (hM2.below (Below.refl _ _).drew).putReg rd _ hrd (ldV_lt _ _)
      · exact (KeptBut.of_below (hB.drew)).setCell _ (.inl rfl) _
  · have tz : (z != 0) = true := by simp [hz]
    go_wp2
    go_ret
    refine ⟨?_, ?_, KeptBut.of_below hB⟩
    · rw [HE.out]; show _ = Ending.returned (.int .i64 (if z = 0 then 0 else 32)); rw [if_neg hz]; rfl
    · rw [HE.out]; show MachAt _ m p mb ov iv (if z = 0 then _ else s); rw [if_neg hz]; exact hM2
set_option maxRecDepth 20000 in
set_option maxHeartbeats 4000000 in
theorem cload_15 (rd r1 r2 : Nat) (imm : Int) (w : World) (m p mb : Nat) (ov iv : Value) (s : Ms) (hM : MachAt w m p mb ov iv s) (at_ : Nat) (hat : at_ < 18446744073709551616) (hrd : rd < 32) :
    Calls Tryz.prog 93 #[.pointer (some ⟨m, 0, none⟩), .agg #[.int .i64 15, .int .i64 (rd : Int), .int .i64 (r1 : Int), .int .i64 (r2 : Int), .int .i64 imm], .int .u64 at_] w (LoadTo m p mb ov iv s 15 rd at_ w) := by
  obtain ⟨q, hq⟩ : ∃ q, q = (loadM s.fs at_ 1).1 := ⟨_, rfl⟩
  obtain ⟨z, hz⟩ : ∃ z, z = (loadM s.fs at_ 1).2 := ⟨_, rfl⟩
  have hqz : loadM s.fs at_ 1 = (q, z) := by rw [hq, hz]
  have HE := Lib.hid (show loadM s.fs at_ (ldN 15) = (q, z) from hqz)
  have HL := Lib.hid (fun W (h : MemAt W p mb s.fs) => Load_st W p mb s.fs h at_ 1 hat q z hqz)
  have HS := Lib.hid (fun W => csigned_any 15 q (by decide) W)
  clear hq hz hqz
  obtain ⟨w1, hw1⟩ : ∃ W : World, W = w.alloc (.cells #[.int .i64 15, .int .i64 (rd : Int), .int .i64 (r1 : Int), .int .i64 (r2 : Int), .int .i64 imm] 26) := ⟨_, rfl⟩
  have hi0 : w1.heap[w.heap.size]? = some (.cells #[.int .i64 15, .int .i64 (rd : Int), .int .i64 (r1 : Int), .int .i64 (r2 : Int), .int .i64 imm] 26 (0, 0)) := by rw [hw1]; exact heap_alloc_new w _
  have hB1 : Below w.heap.size w w1 := by rw [hw1]; exact (Below.refl _ _).alloc (Nat.le_refl _) _
  have HW := Lib.hid hw1
  clear hw1
  have hM1 := hM.below hB1
  have i0 := (obj_cell hi0 0).trans rfl
  have i1 := (obj_cell hi0 1).trans rfl
  have c39 := hM1.cmem
  go_enter Tryz.func93, Tryz.ntmps93
  go_upto_region 1 with fail
  rw [← HW.out]
  go_wp2_with fail
  refine Calls.mono (HL.out _ hM1.mem) ?_
  rintro e w2 ⟨rfl, hB2⟩
  have hB : Below w.heap.size w w2 := hB1.trans (hB2.mono hB1.size)
  have hM2 := hM.below hB
  have hi2 := (hB2.block _ (lt_of_block hi0)).trans hi0
  have j0 := (obj_cell hi2 0).trans rfl
  have j1 := (obj_cell hi2 1).trans rfl
  have n3 : (rd : Int) < 32 := by omega
  have cr := hM2.creg rd hrd
  have fr := hM2.fz (1 + rd)
  by_cases hz : z = 0
  · have tz : (z != 0) = false := by simp [hz]
    go_upto_region 7 with fail
    go_region_law (first | (go_simp; go_at_call 108; refine Calls.mono (HS.out _) ?_; rintro e w' ⟨rfl, rfl⟩))
    all_goals
      go_wp2
      go_ret
      refine ⟨?_, ?_, ?_⟩
      · rw [HE.out]; show _ = Ending.returned (.int .i64 (if z = 0 then 0 else 32)); rw [if_pos hz]; rfl
      · rw [HE.out]; show MachAt _ m p mb ov iv (if z = 0 then _ else s); rw [if_pos hz]
        exact (hM2.below (Below.refl _ _).drew).putReg rd _ hrd (ldV_lt _ _)
      · exact (KeptBut.of_below (hB.drew)).setCell _ (.inl rfl) _
  · have tz : (z != 0) = true := by simp [hz]
    go_wp2
    go_ret
    refine ⟨?_, ?_, KeptBut.of_below hB⟩
    · rw [HE.out]; show _ = Ending.returned (.int .i64 (if z = 0 then 0 else 32)); rw [if_neg hz]; rfl
    · rw [HE.out]; show MachAt _ m p mb ov iv (if z = 0 then _ else s); rw [if_neg hz]; exact hM2
set_option maxRecDepth 20000 in
set_option maxHeartbeats 4000000 in
theorem cload_16 (rd r1 r2 : Nat) (imm : Int) (w : World) (m p mb : Nat) (ov iv : Value) (s : Ms) (hM : MachAt w m p mb ov iv s) (at_ : Nat) (hat : at_ < 18446744073709551616) (hrd : rd < 32) :
    Calls Tryz.prog 93 #[.pointer (some ⟨m, 0, none⟩), .agg #[.int .i64 16, .int .i64 (rd : Int), .int .i64 (r1 : Int), .int .i64 (r2 : Int), .int .i64 imm], .int .u64 at_] w (LoadTo m p mb ov iv s 16 rd at_ w) := by
  obtain ⟨q, hq⟩ : ∃ q, q = (loadM s.fs at_ 2).1 := ⟨_, rfl⟩
  obtain ⟨z, hz⟩ : ∃ z, z = (loadM s.fs at_ 2).2 := ⟨_, rfl⟩
  have hqz : loadM s.fs at_ 2 = (q, z) := by rw [hq, hz]
  have HE := Lib.hid (show loadM s.fs at_ (ldN 16) = (q, z) from hqz)
  have HL := Lib.hid (fun W (h : MemAt W p mb s.fs) => Load_st W p mb s.fs h at_ 2 hat q z hqz)
  have HS := Lib.hid (fun W => csigned_any 16 q (by decide) W)
  clear hq hz hqz
  obtain ⟨w1, hw1⟩ : ∃ W : World, W = w.alloc (.cells #[.int .i64 16, .int .i64 (rd : Int), .int .i64 (r1 : Int), .int .i64 (r2 : Int), .int .i64 imm] 26) := ⟨_, rfl⟩
  have hi0 : w1.heap[w.heap.size]? = some (.cells #[.int .i64 16, .int .i64 (rd : Int), .int .i64 (r1 : Int), .int .i64 (r2 : Int), .int .i64 imm] 26 (0, 0)) := by rw [hw1]; exact heap_alloc_new w _
  have hB1 : Below w.heap.size w w1 := by rw [hw1]; exact (Below.refl _ _).alloc (Nat.le_refl _) _
  have HW := Lib.hid hw1
  clear hw1
  have hM1 := hM.below hB1
  have i0 := (obj_cell hi0 0).trans rfl
  have i1 := (obj_cell hi0 1).trans rfl
  have c39 := hM1.cmem
  go_enter Tryz.func93, Tryz.ntmps93
  go_upto_region 1 with fail
  rw [← HW.out]
  go_wp2_with fail
  refine Calls.mono (HL.out _ hM1.mem) ?_
  rintro e w2 ⟨rfl, hB2⟩
  have hB : Below w.heap.size w w2 := hB1.trans (hB2.mono hB1.size)
  have hM2 := hM.below hB
  have hi2 := (hB2.block _ (lt_of_block hi0)).trans hi0
  have j0 := (obj_cell hi2 0).trans rfl
  have j1 := (obj_cell hi2 1).trans rfl
  have n3 : (rd : Int) < 32 := by omega
  have cr := hM2.creg rd hrd
  have fr := hM2.fz (1 + rd)
  by_cases hz : z = 0
  · have tz : (z != 0) = false := by simp [hz]
    go_upto_region 7 with fail
    go_region_law (first | (go_simp; go_at_call 108; refine Calls.mono (HS.out _) ?_; rintro e w' ⟨rfl, rfl⟩))
    all_goals
      go_wp2
      go_ret
      refine ⟨?_, ?_, ?_⟩
      · rw [HE.out]; show _ = Ending.returned (.int .i64 (if z = 0 then 0 else 32)); rw [if_pos hz]; rfl
      · rw [HE.out]; show MachAt _ m p mb ov iv (if z = 0 then _ else s); rw [if_pos hz]
        exact (hM2.below (Below.refl _ _).drew).putReg rd _ hrd (ldV_lt _ _)
      · exact (KeptBut.of_below (hB.drew)).setCell _ (.inl rfl) _
  · have tz : (z != 0) = true := by simp [hz]
    go_wp2
    go_ret
    refine ⟨?_, ?_, KeptBut.of_below hB⟩
    · rw [HE.out]; show _ = Ending.returned (.int .i64 (if z = 0 then 0 else 32)); rw [if_neg hz]; rfl
    · rw [HE.out]; show MachAt _ m p mb ov iv (if z = 0 then _ else s); rw [if_neg hz]; exact hM2
set_option maxRecDepth 20000 in
set_option maxHeartbeats 4000000 in
theorem cload_17 (rd r1 r2 : Nat) (imm : Int) (w : World) (m p mb : Nat) (ov iv : Value) (s : Ms) (hM : MachAt w m p mb ov iv s) (at_ : Nat) (hat : at_ < 18446744073709551616) (hrd : rd < 32) :
    Calls Tryz.prog 93 #[.pointer (some ⟨m, 0, none⟩), .agg #[.int .i64 17, .int .i64 (rd : Int), .int .i64 (r1 : Int), .int .i64 (r2 : Int), .int .i64 imm], .int .u64 at_] w (LoadTo m p mb ov iv s 17 rd at_ w) := by
  obtain ⟨q, hq⟩ : ∃ q, q = (loadM s.fs at_ 4).1 := ⟨_, rfl⟩
  obtain ⟨z, hz⟩ : ∃ z, z = (loadM s.fs at_ 4).2 := ⟨_, rfl⟩
  have hqz : loadM s.fs at_ 4 = (q, z) := by rw [hq, hz]
  have HE := Lib.hid (show loadM s.fs at_ (ldN 17) = (q, z) from hqz)
  have HL := Lib.hid (fun W (h : MemAt W p mb s.fs) => Load_st W p mb s.fs h at_ 4 hat q z hqz)
  have HS := Lib.hid (fun W => csigned_any 17 q (by decide) W)
  clear hq hz hqz
  obtain ⟨w1, hw1⟩ : ∃ W : World, W = w.alloc (.cells #[.int .i64 17, .int .i64 (rd : Int), .int .i64 (r1 : Int), .int .i64 (r2 : Int), .int .i64 imm] 26) := ⟨_, rfl⟩
  have hi0 : w1.heap[w.heap.size]? = some (.cells #[.int .i64 17, .int .i64 (rd : Int), .int .i64 (r1 : Int), .int .i64 (r2 : Int), .int .i64 imm] 26 (0, 0)) := by rw [hw1]; exact heap_alloc_new w _
  have hB1 : Below w.heap.size w w1 := by rw [hw1]; exact (Below.refl _ _).alloc (Nat.le_refl _) _
  have HW := Lib.hid hw1
  clear hw1
  have hM1 := hM.below hB1
  have i0 := (obj_cell hi0 0).trans rfl
  have i1 := (obj_cell hi0 1).trans rfl
  have c39 := hM1.cmem
  go_enter Tryz.func93, Tryz.ntmps93
  go_upto_region 1 with fail
  rw [← HW.out]
  go_wp2_with fail
  refine Calls.mono (HL.out _ hM1.mem) ?_
  rintro e w2 ⟨rfl, hB2⟩
  have hB : Below w.heap.size w w2 := hB1.trans (hB2.mono hB1.size)
  have hM2 := hM.below hB
  have hi2 := (hB2.block _ (lt_of_block hi0)).trans hi0
  have j0 := (obj_cell hi2 0).trans rfl
  have j1 := (obj_cell hi2 1).trans rfl
  have n3 : (rd : Int) < 32 := by omega
  have cr := hM2.creg rd hrd
  have fr := hM2.fz (1 + rd)
  by_cases hz : z = 0
  · have tz : (z != 0) = false := by simp [hz]
    go_upto_region 7 with fail
    go_region_law (first | (go_simp; go_at_call 108; refine Calls.mono (HS.out _) ?_; rintro e w' ⟨rfl, rfl⟩))
    all_goals
      go_wp2
      go_ret
      refine ⟨?_, ?_, ?_⟩
      · rw [HE.out]; show _ = Ending.returned (.int .i64 (if z = 0 then 0 else 32)); rw [if_pos hz]; rfl
      · rw [HE.out]; show MachAt _ m p mb ov iv (if z = 0 then _ else s); rw [if_pos hz]
        exact (hM2.below (Below.refl _ _).drew).putReg rd _ hrd (ldV_lt _ _)
      · exact (KeptBut.of_below (hB.drew)).setCell _ (.inl rfl) _
  · have tz : (z != 0) = true := by simp [hz]
    go_wp2
    go_ret
    refine ⟨?_, ?_, KeptBut.of_below hB⟩
    · rw [HE.out]; show _ = Ending.returned (.int .i64 (if z = 0 then 0 else 32)); rw [if_neg hz]; rfl
    · rw [HE.out]; show MachAt _ m p mb ov iv (if z = 0 then _ else s); rw [if_neg hz]; exact hM2
theorem cload_any (op rd r1 r2 : Nat) (imm : Int) (w : World) (m p mb : Nat) (ov iv : Value) (s : Ms) (hM : MachAt w m p mb ov iv s) (at_ : Nat) (hat : at_ < 18446744073709551616) (hrd : rd < 32) (h1 : 11 ≤ op) (h2 : op ≤ 17) :
    Calls Tryz.prog 93 #[.pointer (some ⟨m, 0, none⟩), .agg #[.int .i64 (op : Int), .int .i64 (rd : Int), .int .i64 (r1 : Int), .int .i64 (r2 : Int), .int .i64 imm], .int .u64 at_] w (LoadTo m p mb ov iv s op rd at_ w) := by
  rcases (by omega : op = 11 ∨ op = 12 ∨ op = 13 ∨ op = 14 ∨ op = 15 ∨ op = 16 ∨ op = 17) with rfl | rfl | rfl | rfl | rfl | rfl | rfl
  · exact cload_11 rd r1 r2 imm w m p mb ov iv s hM at_ hat hrd
  · exact cload_12 rd r1 r2 imm w m p mb ov iv s hM at_ hat hrd
  · exact cload_13 rd r1 r2 imm w m p mb ov iv s hM at_ hat hrd
  · exact cload_14 rd r1 r2 imm w m p mb ov iv s hM at_ hat hrd
  · exact cload_15 rd r1 r2 imm w m p mb ov iv s hM at_ hat hrd
  · exact cload_16 rd r1 r2 imm w m p mb ov iv s hM at_ hat hrd
  · exact cload_17 rd r1 r2 imm w m p mb ov iv s hM at_ hat hrd
end Go.Proofs

/- (*cpu.Machine).step: the case Ec. -/
namespace Go.Proofs
open Go Go.RowKit Go.Pat
set_option maxRecDepth 20000 in
set_option maxHeartbeats 8000000 in
theorem step_Ec (w : World) (m p mb : Nat) (ov iv : Value) (s : Ms) (hM : MachAt w m p mb ov iv s) (hR : RvRows w) (x : Nat) (hf : fetchM s.fs s.c.pc = (x, 0)) (i : Ins) (hi : decR x = some i) (h1 : 64 ≤ i.op) (h2 : i.op ≤ 64) (hCall : ∀ W : World, MachAt W m p mb ov iv s → Calls Tryz.prog 96 #[.pointer (some ⟨m, 0, none⟩)] W (CallTo m p mb ov iv s W)) :
    Calls Tryz.prog 75 #[.pointer (some ⟨m, 0, none⟩)] w (StepTo m p mb ov iv s (execM i s) w) := by
  have hx : x < 4294967296 := by have := fetchM_lt s.fs s.c.pc; rw [hf] at this; exact this
  obtain ⟨b1, b2, b3, b4, b5⟩ := decR_some hi
  have a0 := hM.cpc
  have a39 := hM.cmem
  go_enter Tryz.func75, Tryz.ntmps75
  go_upto_region 1 with fail
  have hwd : Below w.heap.size w w.drew := (Below.refl _ _).drew
  go_region_held3 (fun w' => w'.cell? ⟨m, 0, none⟩ = some (.int .u64 (s.c.pc : Int)) ∧ w'.cell? ⟨m, 39, none⟩ = some (.pointer (some ⟨p, 0, none⟩)))
    (first | exact ⟨a0, a39⟩ | exact ⟨c0, c39⟩)
    (first | (go_at_call 90
              refine Calls.mono (Fetch_st w.drew p mb s.fs (hM.below hwd).mem s.c.pc hM.pc x 0 hf) ?_
              rintro e w1 ⟨rfl, hB1⟩
              have hB1' : Below w.heap.size w w1 := hwd.trans hB1
              have c0 := (hM.below hB1').cpc
              have c39 := (hM.below hB1').cmem))
  have hM1 := hM.below hB1'
  have hR1 := hR.below hB1'
  clear hf hB1 hwd c0 c39
  go_wp2_with fail
  refine Calls.mono (dec_st w1 hR1 x hx i hi) ?_
  rintro e w2 ⟨rfl, hB2⟩
  go_upto_region 5 with fail
  obtain ⟨w3, hw3⟩ : ∃ W : World, W = w2.alloc (.cells #[.int .i64 (i.op : Int), .int .i64 (i.rd : Int), .int .i64 (i.rs1 : Int), .int .i64 (i.rs2 : Int), .int .i64 i.imm] 26) := ⟨_, rfl⟩
  have hi0 : w3.heap[w2.heap.size]? = some (.cells #[.int .i64 (i.op : Int), .int .i64 (i.rd : Int), .int .i64 (i.rs1 : Int), .int .i64 (i.rs2 : Int), .int .i64 i.imm] 26 (0, 0)) := by rw [hw3]; exact heap_alloc_new w2 _
  have hB3 : Below w2.heap.size w2 w3 := by rw [hw3]; exact (Below.refl _ _).alloc (Nat.le_refl _) _
  rw [← hw3]
  clear hw3
  have hB : Below w.heap.size w w3 := hB1'.trans ((hB2.mono hB1'.size).trans (hB3.mono (Nat.le_trans hB1'.size hB2.size)))
  have hM3 := hM.below hB
  clear hM1 hR1 hB1' hB2 hB3 hR a0 a39 hi hx
  have i0 := (obj_cell hi0 0).trans rfl
  have i1 := (obj_cell hi0 1).trans rfl
  have i2 := (obj_cell hi0 2).trans rfl
  have i3 := (obj_cell hi0 3).trans rfl
  have i4 := (obj_cell hi0 4).trans rfl
  have a0 := hM3.cpc
  have r1 := hM3.creg i.rs1 b4
  have r2 := hM3.creg i.rs2 b5
  have n1 : (i.rs1 : Int) < 32 := by omega
  have n2 : (i.rs2 : Int) < 32 := by omega
  have n3 : (i.rd : Int) < 32 := by omega
  go_wp2_with fail
  go_quiet (fail)
  rw [show IntKind.u64.wrap i.imm = ((wrN i.imm : Nat) : Int) from (wrN_is _).symm, show IntKind.u64.wrap ((s.c.pc : Int) + 4) = ((nextPc s : Nat) : Int) from nextPc_is s]
  have rd := hM3.creg i.rd b3
  have fd := hM3.fz (1 + i.rd)
  have f0 := hM3.fz 0
  have e1 : ((i.op : Int) == 1) = false := eqF (b := 1) (by omega)
  have e2 : ((i.op : Int) == 2) = false := eqF (b := 2) (by omega)
  have e3 : ((i.op : Int) == 3) = false := eqF (b := 3) (by omega)
  have e4 : ((i.op : Int) == 4) = false := eqF (b := 4) (by omega)
  have e10 : decide ((i.op : Int) ≤ 10) = false := decide_eq_false (by omega)
  have e17 : decide ((i.op : Int) ≤ 17) = false := decide_eq_false (by omega)
  have e21 : decide ((i.op : Int) ≤ 21) = false := decide_eq_false (by omega)
  have e34 : decide ((i.op : Int) ≤ 34) = false := decide_eq_false (by omega)
  have e62 : decide ((i.op : Int) ≤ 62) = false := decide_eq_false (by omega)
  have e65 : ((i.op : Int) == 65) = false := eqF (b := 65) (by omega)
  have e64 : ((i.op : Int) == 64) = true := eqT (b := 64) (by omega)
  obtain ⟨z, hz⟩ : ∃ z, z = (callM s).1 := ⟨_, rfl⟩
  by_cases h0 : z = 0
  · have HE := Lib.hid (show execM i s = (0, { (callM s).2 with c := { (callM s).2.c with pc := nextPc s } }) by unfold execM; rw [if_neg (by omega), if_neg (by omega), if_neg (by omega), if_neg (by omega), if_neg (by omega), if_neg (by omega), if_neg (by omega), if_neg (by omega), if_neg (by omega), if_neg (by omega), if_pos (by omega), if_pos (hz.symm.trans h0)])
    have HZ := Lib.hid hz
    clear hz
    subst h0
    go_wp2_with fail
    refine Calls.mono (hCall _ (hM3.below (bdrewN (Below.refl _ _) _))) ?_
    rintro e w4 ⟨rfl, ov', hM4, hK4, hO4, hF⟩
    rw [← HZ.out]
    have c4 := hM4.cpc
    have f4 := hM4.fz 0
    go_wp2
    go_ret
    refine ⟨by rw [HE.out]; rfl, ov', ?_, ((KeptBut.of_below (bdrewN hB _)).trans hK4).setCell _ (.inl rfl) _, fun g h => (hO4 g h).imp id (fun h => Nat.le_trans hB.size h)⟩
    rw [HE.out]
    exact hM4.putPc (nextPc s) (nextPc_lt s)
  · have HE := Lib.hid (show execM i s = (z, s) by unfold execM; rw [if_neg (by omega), if_neg (by omega), if_neg (by omega), if_neg (by omega), if_neg (by omega), if_neg (by omega), if_neg (by omega), if_neg (by omega), if_neg (by omega), if_neg (by omega), if_pos (by omega), if_neg (fun h => h0 (hz.trans h)), hz])
    have HZ := Lib.hid hz
    clear hz
    have t0 : (z != 0) = true := by simp [h0]
    go_wp2_with fail
    refine Calls.mono (hCall _ (hM3.below (bdrewN (Below.refl _ _) _))) ?_
    rintro e w4 ⟨rfl, ov', hM4, hK4, hO4, hF⟩
    have hF2 := hF (by rw [← HZ.out]; exact h0)
    rw [hF2] at hM4
    rw [← HZ.out]
    clear hF
    go_wp2
    go_ret
    refine ⟨by rw [HE.out]; rfl, ov', ?_, (KeptBut.of_below (bdrewN hB _)).trans hK4, fun g h => (hO4 g h).imp id (fun h => Nat.le_trans hB.size h)⟩
    rw [HE.out]
    exact hM4
end Go.Proofs

/- (*cpu.Machine).step: the case Ld. -/
namespace Go.Proofs
open Go Go.RowKit Go.Pat
set_option maxRecDepth 20000 in
set_option maxHeartbeats 8000000 in
theorem step_Ld (w : World) (m p mb : Nat) (ov iv : Value) (s : Ms) (hM : MachAt w m p mb ov iv s) (hR : RvRows w) (x : Nat) (hf : fetchM s.fs s.c.pc = (x, 0)) (i : Ins) (hi : decR x = some i) (h1 : 11 ≤ i.op) (h2 : i.op ≤ 17) :
    Calls Tryz.prog 75 #[.pointer (some ⟨m, 0, none⟩)] w (StepTo m p mb ov iv s (execM i s) w) := by
  have hx : x < 4294967296 := by have := fetchM_lt s.fs s.c.pc; rw [hf] at this; exact this
  obtain ⟨b1, b2, b3, b4, b5⟩ := decR_some hi
  have a0 := hM.cpc
  have a39 := hM.cmem
  go_enter Tryz.func75, Tryz.ntmps75
  go_upto_region 1 with fail
  have hwd : Below w.heap.size w w.drew := (Below.refl _ _).drew
  go_region_held3 (fun w' => w'.cell? ⟨m, 0, none⟩ = some (.int .u64 (s.c.pc : Int)) ∧ w'.cell? ⟨m, 39, none⟩ = some (.pointer (some ⟨p, 0, none⟩)))
    (first | exact ⟨a0, a39⟩ | exact ⟨c0, c39⟩)
    (first | (go_at_call 90
              refine Calls.mono (Fetch_st w.drew p mb s.fs (hM.below hwd).mem s.c.pc hM.pc x 0 hf) ?_
              rintro e w1 ⟨rfl, hB1⟩
              have hB1' : Below w.heap.size w w1 := hwd.trans hB1
              have c0 := (hM.below hB1').cpc
              have c39 := (hM.below hB1').cmem))
  have hM1 := hM.below hB1'
  have hR1 := hR.below hB1'
  clear hf hB1 hwd c0 c39
  go_wp2_with fail
  refine Calls.mono (dec_st w1 hR1 x hx i hi) ?_
  rintro e w2 ⟨rfl, hB2⟩
  go_upto_region 5 with fail
  obtain ⟨w3, hw3⟩ : ∃ W : World, W = w2.alloc (.cells #[.int .i64 (i.op : Int), .int .i64 (i.rd : Int), .int .i64 (i.rs1 : Int), .int .i64 (i.rs2 : Int), .int .i64 i.imm] 26) := ⟨_, rfl⟩
  have hi0 : w3.heap[w2.heap.size]? = some (.cells #[.int .i64 (i.op : Int), .int .i64 (i.rd : Int), .int .i64 (i.rs1 : Int), .int .i64 (i.rs2 : Int), .int .i64 i.imm] 26 (0, 0)) := by rw [hw3]; exact heap_alloc_new w2 _
  have hB3 : Below w2.heap.size w2 w3 := by rw [hw3]; exact (Below.refl _ _).alloc (Nat.le_refl _) _
  rw [← hw3]
  clear hw3
  have hB : Below w.heap.size w w3 := hB1'.trans ((hB2.mono hB1'.size).trans (hB3.mono (Nat.le_trans hB1'.size hB2.size)))
  have hM3 := hM.below hB
  clear hM1 hR1 hB1' hB2 hB3 hR a0 a39 hi hx
  have i0 := (obj_cell hi0 0).trans rfl
  have i1 := (obj_cell hi0 1).trans rfl
  have i2 := (obj_cell hi0 2).trans rfl
  have i3 := (obj_cell hi0 3).trans rfl
  have i4 := (obj_cell hi0 4).trans rfl
  have a0 := hM3.cpc
  have r1 := hM3.creg i.rs1 b4
  have r2 := hM3.creg i.rs2 b5
  have n1 : (i.rs1 : Int) < 32 := by omega
  have n2 : (i.rs2 : Int) < 32 := by omega
  have n3 : (i.rd : Int) < 32 := by omega
  go_wp2_with fail
  go_quiet (fail)
  rw [show IntKind.u64.wrap i.imm = ((wrN i.imm : Nat) : Int) from (wrN_is _).symm, show IntKind.u64.wrap ((s.c.pc : Int) + 4) = ((nextPc s : Nat) : Int) from nextPc_is s]
  have rd := hM3.creg i.rd b3
  have fd := hM3.fz (1 + i.rd)
  have f0 := hM3.fz 0
  have e1 : ((i.op : Int) == 1) = false := eqF (b := 1) (by omega)
  have e2 : ((i.op : Int) == 2) = false := eqF (b := 2) (by omega)
  have e3 : ((i.op : Int) == 3) = false := eqF (b := 3) (by omega)
  have e4 : ((i.op : Int) == 4) = false := eqF (b := 4) (by omega)
  have e10 : decide ((i.op : Int) ≤ 10) = false := decide_eq_false (by omega)
  have e17 : decide ((i.op : Int) ≤ 17) = true := decide_eq_true (by omega)
  obtain ⟨at_, hat⟩ : ∃ n, n = (s.c.reg i.rs1 + wrN i.imm) % 18446744073709551616 := ⟨_, rfl⟩
  have hal : at_ < 18446744073709551616 := by rw [hat]; exact mod64_lt _
  have hE : execM i s = (if (loadM s.fs at_ (ldN i.op)).2 = 0 then (0, { s with c := s.c.put i.rd (ldV i.op (loadM s.fs at_ (ldN i.op)).1) (nextPc s) }) else (32, s)) := by unfold execM; rw [if_neg (by omega), if_neg (by omega), if_neg (by omega), if_neg (by omega), if_neg (by omega), if_pos (by omega), ← hat]
  have hadd := add_is (s.c.reg i.rs1) (wrN i.imm)
  rw [← hat] at hadd
  have HA := Lib.hid hadd
  clear hadd hat
  by_cases hz : (loadM s.fs at_ (ldN i.op)).2 = 0
  · rw [if_pos hz] at hE
    have HE := Lib.hid hE
    have HZ := Lib.hid hz
    clear hE hz
    go_wp2_with fail
    rw [HA.out]
    refine Calls.mono (cload_any i.op i.rd i.rs1 i.rs2 i.imm _ m p mb ov iv s (hM3.below (bdrewN (Below.refl _ _) _)) at_ hal b3 (by omega) (by omega)) ?_
    rintro e w4 ⟨rfl, hM4, hK4⟩
    rw [if_pos HZ.out] at hM4 ⊢
    have c4 := hM4.cpc
    have f4 := hM4.fz 0
    go_wp2
    go_ret
    refine ⟨by rw [HE.out]; rfl, ov, ?_, ((KeptBut.of_below (bdrewN hB _)).trans hK4).setCell _ (.inl rfl) _, fun g h => .inl h⟩
    rw [HE.out]
    exact hM4.putPc (nextPc s) (nextPc_lt s)
  · rw [if_neg hz] at hE
    have HE := Lib.hid hE
    have HZ := Lib.hid hz
    clear hE hz
    go_wp2_with fail
    rw [HA.out]
    refine Calls.mono (cload_any i.op i.rd i.rs1 i.rs2 i.imm _ m p mb ov iv s (hM3.below (bdrewN (Below.refl _ _) _)) at_ hal b3 (by omega) (by omega)) ?_
    rintro e w4 ⟨rfl, hM4, hK4⟩
    rw [if_neg HZ.out] at hM4 ⊢
    go_wp2
    go_ret
    refine ⟨by rw [HE.out]; rfl, ov, ?_, (KeptBut.of_below (bdrewN hB _)).trans hK4, fun g h => .inl h⟩
    rw [HE.out]
    exact hM4
end Go.Proofs

/- (*cpu.Machine).step: the case St. -/
namespace Go.Proofs
open Go Go.RowKit Go.Pat
set_option maxRecDepth 20000 in
set_option maxHeartbeats 8000000 in
theorem step_St (w : World) (m p mb : Nat) (ov iv : Value) (s : Ms) (hM : MachAt w m p mb ov iv s) (hR : RvRows w) (x : Nat) (hf : fetchM s.fs s.c.pc = (x, 0)) (i : Ins) (hi : decR x = some i) (h1 : 18 ≤ i.op) (h2 : i.op ≤ 21) :
    Calls Tryz.prog 75 #[.pointer (some ⟨m, 0, none⟩)] w (StepTo m p mb ov iv s (execM i s) w) := by
  have hx : x < 4294967296 := by have := fetchM_lt s.fs s.c.pc; rw [hf] at this; exact this
  obtain ⟨b1, b2, b3, b4, b5⟩ := decR_some hi
  have a0 := hM.cpc
  have a39 := hM.cmem
  go_enter Tryz.func75, Tryz.ntmps75
  go_upto_region 1 with fail
  have hwd : Below w.heap.size w w.drew := (Below.refl _ _).drew
  go_region_held3 (fun w' => w'.cell? ⟨m, 0, none⟩ = some (.int .u64 (s.c.pc : Int)) ∧ w'.cell? ⟨m, 39, none⟩ = some (.pointer (some ⟨p, 0, none⟩)))
    (first | exact ⟨a0, a39⟩ | exact ⟨c0, c39⟩)
    (first | (go_at_call 90
              refine Calls.mono (Fetch_st w.drew p mb s.fs (hM.below hwd).mem s.c.pc hM.pc x 0 hf) ?_
              rintro e w1 ⟨rfl, hB1⟩
              have hB1' : Below w.heap.size w w1 := hwd.trans hB1
              have c0 := (hM.below hB1').cpc
              have c39 := (hM.below hB1').cmem))
  have hM1 := hM.below hB1'
  have hR1 := hR.below hB1'
  clear hf hB1 hwd c0 c39
  go_wp2_with fail
  refine Calls.mono (dec_st w1 hR1 x hx i hi) ?_
  rintro e w2 ⟨rfl, hB2⟩
  go_upto_region 5 with fail
  obtain ⟨w3, hw3⟩ : ∃ W : World, W = w2.alloc (.cells #[.int .i64 (i.op : Int), .int .i64 (i.rd : Int), .int .i64 (i.rs1 : Int), .int .i64 (i.rs2 : Int), .int .i64 i.imm] 26) := ⟨_, rfl⟩
  have hi0 : w3.heap[w2.heap.size]? = some (.cells #[.int .i64 (i.op : Int), .int .i64 (i.rd : Int), .int .i64 (i.rs1 : Int), .int .i64 (i.rs2 : Int), .int .i64 i.imm] 26 (0, 0)) := by rw [hw3]; exact heap_alloc_new w2 _
  have hB3 : Below w2.heap.size w2 w3 := by rw [hw3]; exact (Below.refl _ _).alloc (Nat.le_refl _) _
  rw [← hw3]
  clear hw3
  have hB : Below w.heap.size w w3 := hB1'.trans ((hB2.mono hB1'.size).trans (hB3.mono (Nat.le_trans hB1'.size hB2.size)))
  have hM3 := hM.below hB
  clear hM1 hR1 hB1' hB2 hB3 hR a0 a39 hi hx
  have i0 := (obj_cell hi0 0).trans rfl
  have i1 := (obj_cell hi0 1).trans rfl
  have i2 := (obj_cell hi0 2).trans rfl
  have i3 := (obj_cell hi0 3).trans rfl
  have i4 := (obj_cell hi0 4).trans rfl
  have a0 := hM3.cpc
  have r1 := hM3.creg i.rs1 b4
  have r2 := hM3.creg i.rs2 b5
  have n1 : (i.rs1 : Int) < 32 := by omega
  have n2 : (i.rs2 : Int) < 32 := by omega
  have n3 : (i.rd : Int) < 32 := by omega
  go_wp2_with fail
  go_quiet (fail)
  rw [show IntKind.u64.wrap i.imm = ((wrN i.imm : Nat) : Int) from (wrN_is _).symm, show IntKind.u64.wrap ((s.c.pc : Int) + 4) = ((nextPc s : Nat) : Int) from nextPc_is s]
  have rd := hM3.creg i.rd b3
  have fd := hM3.fz (1 + i.rd)
  have f0 := hM3.fz 0
  have e1 : ((i.op : Int) == 1) = false := eqF (b := 1) (by omega)
  have e2 : ((i.op : Int) == 2) = false := eqF (b := 2) (by omega)
  have e3 : ((i.op : Int) == 3) = false := eqF (b := 3) (by omega)
  have e4 : ((i.op : Int) == 4) = false := eqF (b := 4) (by omega)
  have e10 : decide ((i.op : Int) ≤ 10) = false := decide_eq_false (by omega)
  have e17 : decide ((i.op : Int) ≤ 17) = false := decide_eq_false (by omega)
  have e21 : decide ((i.op : Int) ≤ 21) = true := decide_eq_true (by omega)
  go_upto_region 28 with fail
  obtain ⟨at_, hat⟩ : ∃ n, n = (s.c.reg i.rs1 + wrN i.imm) % 18446744073709551616 := ⟨_, rfl⟩
  have hal : at_ < 18446744073709551616 := by rw [hat]; exact mod64_lt _
  obtain ⟨n, hn⟩ : ∃ n : Int, n = ((2 ^ (i.op - 18) : Nat) : Int) := ⟨_, rfl⟩
  have hn2 : (2 : Nat) ^ (i.op - 18) ≤ 8 := Nat.pow_le_pow_right (by decide) (show i.op - 18 ≤ 3 by omega)
  have hsh : ∀ W : World, (Op.shift .shl .i64 1 .i64 (IntKind.i64.wrap ((i.op : Int) - 18))).run Tryz.prog W = .ok (.int .i64 n) W := fun W => by
    rw [run_shl .i64 .i64 1 (IntKind.i64.wrap ((i.op : Int) - 18)) (i.op - 18) (by rw [IntKind.wrap_i64]; omega) (show i.op - 18 < 64 by omega) W, hn, Int.one_mul, pow_int, IntKind.wrap_i64]
    generalize (2 : Nat) ^ (i.op - 18) = q at hn2 ⊢
    rw [show ((q : Int) + 9223372036854775808) % 18446744073709551616 - 9223372036854775808 = (q : Int) by omega]
  have hE : execM i s = (if storeE s.fs at_ n = 0 then (0, { s with c := { s.c with pc := nextPc s }, fs := storeM s.fs at_ (s.c.reg i.rs2) n }) else (33, s)) := by unfold execM; rw [if_neg (by omega), if_neg (by omega), if_neg (by omega), if_neg (by omega), if_neg (by omega), if_neg (by omega), if_pos (by omega), ← hat, ← hn]
  have hadd := add_is (s.c.reg i.rs1) (wrN i.imm)
  rw [← hat] at hadd
  have HA := Lib.hid hadd
  clear hadd hat hn2 hn
  have c39 := hM3.cmem
  have hMd : MachAt (w3.drewN (nq + 1)) m p mb ov iv s := hM3.below (bdrewN (Below.refl _ _) _)
  have hvl := hM3.small i.rs2
  have hSt : ∀ W : World, MemAt W p mb s.fs → Calls Tryz.prog 94 #[.pointer (some ⟨p, 0, none⟩), .int .u64 at_, .int .i64 n, .int .u64 (s.c.reg i.rs2 : Nat)] W fun e w' =>
      e = .returned (.int .i64 (storeE s.fs at_ n)) ∧ MemAt w' p mb (storeM s.fs at_ (s.c.reg i.rs2) n) ∧ KeptBut (fun b => b ∈ s.fs.map (·.blk)) W w' := fun W h => Store_all W p mb s.fs h at_ (s.c.reg i.rs2) n hal hvl
  obtain ⟨fs', hfs⟩ : ∃ fs', fs' = storeM s.fs at_ (s.c.reg i.rs2) n := ⟨_, rfl⟩
  have hbl : fs'.map (·.blk) = s.fs.map (·.blk) := by rw [hfs]; exact storeM_blk _ _ _ _
  obtain ⟨z, hz⟩ : ∃ z, z = storeE s.fs at_ n := ⟨_, rfl⟩
  rw [← hz, ← hfs] at hSt hE
  have HF := Lib.hid (show z ≠ 0 → fs' = s.fs from fun h => by rw [hfs]; unfold storeM; rw [if_neg (by rw [← hz]; exact h)])
  have HS := Lib.hid hSt
  have HB := Lib.hid hbl
  clear hSt hfs hbl hz
  by_cases h0 : z = 0
  · subst h0
    rw [if_pos rfl] at hE
    have HE := Lib.hid hE
    clear hE
    go_region_law (first | (go_simp; rw [HA.out]; go_at_call 94; refine Calls.mono (HS.out _ hMd.mem) ?_; rintro e w4 ⟨rfl, hm4, hk4⟩))
    all_goals
      have hM4 := hMd.store hm4 hk4 HB.out
      have c4 := hM4.cpc
      have f4 := hM4.fz 0
      go_wp2
      go_ret
      refine ⟨by rw [HE.out]; rfl, ov, ?_, (((KeptBut.of_below (bdrewN hB _)).trans (hk4.mono fun k h => .inr (.inl h))).setCell _ (.inl rfl) _), fun g h => .inl h⟩
      rw [HE.out]
      exact hM4.putPc (nextPc s) (nextPc_lt s)
  · rw [if_neg h0] at hE
    have HE := Lib.hid hE
    clear hE
    have tz : (z != 0) = true := by simp [h0]
    go_region_law (first | (go_simp; rw [HA.out]; go_at_call 94; refine Calls.mono (HS.out _ hMd.mem) ?_; rintro e w4 ⟨rfl, hm4, hk4⟩))
    all_goals
      have hM4 := hMd.store hm4 hk4 HB.out
      rw [HF.out h0] at hM4
      go_wp2
      go_ret
      refine ⟨by rw [HE.out]; rfl, ov, ?_, ((KeptBut.of_below (bdrewN hB _)).trans (hk4.mono fun k h => .inr (.inl h))), fun g h => .inl h⟩
      rw [HE.out]
      exact hM4
end Go.Proofs

/- (*cpu.Machine).step, over, Step: whatever the machine's word says. -/
namespace Go.Pat
open Go Go.RowKit
theorem or_ite {c : Prop} [Decidable c] {a b : Int × Ms} {s : Ms} (ha : a.1 = 0 ∨ a.2 = s) (hb : b.1 = 0 ∨ b.2 = s) : (if c then a else b).1 = 0 ∨ (if c then a else b).2 = s := by
  by_cases h : c
  · rw [if_pos h]; exact ha
  · rw [if_neg h]; exact hb
theorem execM_or (i : Ins) (s : Ms) : (execM i s).1 = 0 ∨ (execM i s).2 = s := by
  unfold execM
  exact or_ite (.inl rfl) (or_ite (.inl rfl) (or_ite (.inl rfl) (or_ite (.inl rfl) (or_ite (.inl rfl) (or_ite (or_ite (.inl rfl) (.inr rfl)) (or_ite (or_ite (.inl rfl) (.inr rfl)) (or_ite (.inl rfl) (or_ite (.inl rfl) (or_ite (.inr rfl) (or_ite (or_ite (.inl rfl) (.inr rfl)) (.inl rfl)))))))))))
theorem execM_err (i : Ins) (s : Ms) (h : (execM i s).1 ≠ 0) : (execM i s).2 = s := (execM_or i s).resolve_left h
theorem innerM_err (s : Ms) (h : (innerM s).1 ≠ 0) : (innerM s).2 = s := by
  unfold innerM at h ⊢
  split
  · rename_i h1
    rw [if_pos h1] at h
    split
    · rfl
    · rename_i i hi
      rw [hi] at h
      exact execM_err i s h
  · rfl
end Go.Pat
namespace Go.Proofs
open Go Go.RowKit Go.Pat
theorem inner_any (w : World) (m p mb : Nat) (ov iv : Value) (s : Ms) (hM : MachAt w m p mb ov iv s) (hR : RvRows w) (hroom : s.c.out.length + 1 ≤ 140737488355328) :
    Calls Tryz.prog 75 #[.pointer (some ⟨m, 0, none⟩)] w (StepTo m p mb ov iv s (innerM s) w) := by
  by_cases hz : (fetchM s.fs s.c.pc).2 = 0
  · have hf : fetchM s.fs s.c.pc = ((fetchM s.fs s.c.pc).1, 0) := Prod.ext rfl hz
    cases hd : decR (fetchM s.fs s.c.pc).1 with
    | none =>
      have e : innerM s = (31, s) := by unfold innerM; rw [if_pos hz, hd]
      rw [e]
      exact step_noword w m p mb ov iv s hM hR _ hf hd
    | some i =>
      have e : innerM s = execM i s := by unfold innerM; rw [if_pos hz, hd]
      rw [e]
      have hb := decR_some hd
      by_cases h1 : i.op ≤ 1
      · exact step_Lui w m p mb ov iv s hM hR _ hf i hd hb.1 h1
      by_cases h2 : i.op ≤ 2
      · exact step_Aui w m p mb ov iv s hM hR _ hf i hd (by omega) h2
      by_cases h3 : i.op ≤ 3
      · exact step_Jal w m p mb ov iv s hM hR _ hf i hd (by omega) h3
      by_cases h4 : i.op ≤ 4
      · exact step_Jalr w m p mb ov iv s hM hR _ hf i hd (by omega) h4
      by_cases h5 : i.op ≤ 10
      · exact step_Br w m p mb ov iv s hM hR _ hf i hd (by omega) h5
      by_cases h6 : i.op ≤ 17
      · exact step_Ld w m p mb ov iv s hM hR _ hf i hd (by omega) h6
      by_cases h7 : i.op ≤ 21
      · exact step_St w m p mb ov iv s hM hR _ hf i hd (by omega) h7
      by_cases h8 : i.op ≤ 34
      · exact step_Imm w m p mb ov iv s hM hR _ hf i hd (by omega) h8
      by_cases h9 : i.op ≤ 62
      · exact step_Reg w m p mb ov iv s hM hR _ hf i hd (by omega) h9
      by_cases h10 : i.op ≤ 63
      · exact step_Fen w m p mb ov iv s hM hR _ hf i hd (by omega) h10
      by_cases h11 : i.op ≤ 64
      · exact step_Ec w m p mb ov iv s hM hR _ hf i hd (by omega) h11 (fun W hW => call_any W m p mb ov iv s hW hroom)
      exact step_Ebr w m p mb ov iv s hM hR _ hf i hd (by omega) hb.2.1
  · have e : innerM s = (30, s) := by unfold innerM; rw [if_neg hz]
    rw [e]
    exact step_nofetch w m p mb ov iv s hM (fetchM s.fs s.c.pc).1 (fetchM s.fs s.c.pc).2 rfl hz
theorem over_any (w : World) (m p mb : Nat) (ov iv : Value) (s : Ms) (hM : MachAt w m p mb ov iv s) :
    Calls Tryz.prog 56 #[.pointer (some ⟨m, 0, none⟩)] w fun e w' => e = .returned (.bool (overB s.c)) ∧ w' = w := by
  have c4 := hM.chalted
  have c6 := hM.cfault
  have HO := Lib.hid (show overB s.c = (s.c.halted || decide (s.c.fault ≠ 0)) from rfl)
  cases hh : s.c.halted with
  | true =>
    rw [hh] at c4 HO
    clear hh
    go_enter Tryz.func56, Tryz.ntmps56
    go_wp2
    go_ret
    exact ⟨by rw [HO.out]; rfl, rfl⟩
  | false =>
    rw [hh] at c4 HO
    clear hh
    by_cases h0 : s.c.fault = 0
    · have t0 : (s.c.fault != 0) = false := by simp [h0]
      rw [decide_eq_false (fun h => h h0)] at HO
      clear h0
      go_enter Tryz.func56, Tryz.ntmps56
      go_wp2
      go_ret
      exact ⟨by rw [HO.out]; rfl, rfl⟩
    · have t0 : (s.c.fault != 0) = true := by simp [h0]
      rw [decide_eq_true h0] at HO
      clear h0
      go_enter Tryz.func56, Tryz.ntmps56
      go_wp2
      go_ret
      exact ⟨by rw [HO.out]; rfl, rfl⟩
set_option maxHeartbeats 4000000 in
theorem Step_any (w : World) (m p mb : Nat) (ov iv : Value) (s : Ms) (hM : MachAt w m p mb ov iv s) (hR : RvRows w) (hroom : s.c.out.length + 1 ≤ 140737488355328) :
    Calls Tryz.prog 57 #[.pointer (some ⟨m, 0, none⟩)] w (StepTo m p mb ov iv s (stepM s) w) := by
  cases ho : overB s.c with
  | true =>
    have HE := Lib.hid (show stepM s = (s.c.fault, s) by unfold stepM; rw [if_pos ho])
    have hov := fun W h => over_any W m p mb ov iv s h
    rw [ho] at hov
    have HV := Lib.hid hov
    clear hov ho
    have c6 := hM.cfault
    go_enter Tryz.func57, Tryz.ntmps57
    go_wp2_with fail
    refine Calls.mono (HV.out _ hM) ?_
    rintro e w' ⟨rfl, rfl⟩
    go_wp2
    go_ret
    refine ⟨by rw [HE.out]; rfl, ov, ?_, .refl _ _, fun g h => .inl h⟩
    rw [HE.out]
    exact hM
  | false =>
    have hov := fun W h => over_any W m p mb ov iv s h
    rw [ho] at hov
    have HV := Lib.hid hov
    clear hov
    obtain ⟨r, hr⟩ : ∃ r, r = innerM s := ⟨_, rfl⟩
    have HI := Lib.hid (fun W h hr => inner_any W m p mb ov iv s h hr hroom)
    rw [← hr] at HI
    by_cases h0 : r.1 = 0
    · have HE := Lib.hid (show stepM s = (0, { r.2 with c := { r.2.c with regs := r.2.c.regs.set 0 0, steps := IntKind.i64.wrap (r.2.c.steps + 1) } }) by unfold stepM; rw [if_neg (by rw [ho]; decide), ← hr, if_pos h0])
      have H0 := Lib.hid h0
      clear ho hr h0
      go_enter Tryz.func57, Tryz.ntmps57
      go_wp2_with fail
      refine Calls.mono (HV.out _ hM) ?_
      rintro e w' ⟨rfl, rfl⟩
      go_wp2_with fail
      refine Calls.mono (HI.out _ hM hR) ?_
      rintro e w4 ⟨rfl, ov', hM4, hK4, hO4⟩
      rw [H0.out]
      have c1 := hM4.creg 0 (by decide)
      have f1 := hM4.fz (1 + 0)
      have c33 := hM4.csteps
      have f33 := hM4.fz 33
      go_wp2
      go_ret
      refine ⟨by rw [HE.out]; rfl, ov', ?_, (hK4.setCell _ (.inl rfl) _).setCell _ (.inl rfl) _, hO4⟩
      rw [HE.out, show wrap64 (r.2.c.steps + 1) = IntKind.i64.wrap (r.2.c.steps + 1) by rw [wrap64, IntKind.wrap_i64]]
      exact (hM4.putReg 0 0 (by decide) (by decide)).putSteps _
    · have h2 : r.2 = s := by rw [hr]; exact innerM_err s (by rw [← hr]; exact h0)
      have HE := Lib.hid (show stepM s = (r.1, { s with c := { s.c with fault := r.1 } }) by unfold stepM; rw [if_neg (by rw [ho]; decide), ← hr, if_neg h0])
      have t0 : (r.1 != 0) = true := by simp [h0]
      have H2 := Lib.hid h2
      clear ho hr h0 h2
      go_enter Tryz.func57, Tryz.ntmps57
      go_wp2_with fail
      refine Calls.mono (HV.out _ hM) ?_
      rintro e w' ⟨rfl, rfl⟩
      go_wp2_with fail
      refine Calls.mono (HI.out _ hM hR) ?_
      rintro e w4 ⟨rfl, ov', hM4, hK4, hO4⟩
      rw [H2.out] at hM4
      have c36 := hM4.cfault
      have f36 := hM4.fz 36
      go_wp2
      go_ret
      refine ⟨by rw [HE.out]; rfl, ov', ?_, hK4.setCell _ (.inl rfl) _, hO4⟩
      rw [HE.out]
      exact hM4.putFault _
end Go.Proofs

/- (*cpu.Machine).Run: at most so many steps. -/
namespace Go.Pat
open Go Go.RowKit
theorem p_ite {α : Type} {P : α → Prop} {c : Prop} [Decidable c] {a b : α} (ha : P a) (hb : P b) : P (if c then a else b) := by
  by_cases h : c
  · rw [if_pos h]; exact ha
  · rw [if_neg h]; exact hb
/-- what no step changes, and how much is written. -/
def Alike (s t : Ms) : Prop := t.fs.map (·.blk) = s.fs.map (·.blk) ∧ t.c.out.length ≤ s.c.out.length + 1 ∧ t.inp = s.inp
theorem Alike.refl (s : Ms) : Alike s s := ⟨rfl, Nat.le_succ _, rfl⟩
theorem callM_alike (s : Ms) : Alike s (callM s).2 := by
  unfold callM
  refine p_ite (P := fun r : Int × Ms => Alike s r.2) (p_ite (P := fun r : Int × Ms => Alike s r.2) ⟨rfl, Nat.le_succ _, rfl⟩ ⟨rfl, Nat.le_succ _, rfl⟩) (p_ite (P := fun r : Int × Ms => Alike s r.2) ⟨rfl, by simp, rfl⟩ (p_ite (P := fun r : Int × Ms => Alike s r.2) ⟨rfl, Nat.le_succ _, rfl⟩ (.refl s)))
theorem execM_alike (i : Ins) (s : Ms) : Alike s (execM i s).2 := by
  have q : Alike s s := .refl s
  have hc := callM_alike s
  unfold execM
  exact p_ite (P := fun r : Int × Ms => Alike s r.2) ⟨rfl, Nat.le_succ _, rfl⟩ (p_ite (P := fun r : Int × Ms => Alike s r.2) ⟨rfl, Nat.le_succ _, rfl⟩ (p_ite (P := fun r : Int × Ms => Alike s r.2) ⟨rfl, Nat.le_succ _, rfl⟩ (p_ite (P := fun r : Int × Ms => Alike s r.2) ⟨rfl, Nat.le_succ _, rfl⟩
    (p_ite (P := fun r : Int × Ms => Alike s r.2) ⟨rfl, Nat.le_succ _, rfl⟩ (p_ite (P := fun r : Int × Ms => Alike s r.2) (p_ite (P := fun r : Int × Ms => Alike s r.2) ⟨rfl, Nat.le_succ _, rfl⟩ q)
    (p_ite (P := fun r : Int × Ms => Alike s r.2) (p_ite (P := fun r : Int × Ms => Alike s r.2) ⟨Go.Proofs.storeM_blk _ _ _ _, Nat.le_succ _, rfl⟩ q) (p_ite (P := fun r : Int × Ms => Alike s r.2) ⟨rfl, Nat.le_succ _, rfl⟩ (p_ite (P := fun r : Int × Ms => Alike s r.2) ⟨rfl, Nat.le_succ _, rfl⟩
    (p_ite (P := fun r : Int × Ms => Alike s r.2) q (p_ite (P := fun r : Int × Ms => Alike s r.2) (p_ite (P := fun r : Int × Ms => Alike s r.2) hc q) ⟨rfl, Nat.le_succ _, rfl⟩))))))))))
theorem innerM_alike (s : Ms) : Alike s (innerM s).2 := by
  unfold innerM
  refine p_ite (P := fun r : Int × Ms => Alike s r.2) ?_ (.refl s)
  cases decR (fetchM s.fs s.c.pc).1 with
  | none => exact .refl s
  | some i => exact execM_alike i s
theorem stepM_alike (s : Ms) : Alike s (stepM s).2 := by
  have h := innerM_alike s
  unfold stepM
  exact p_ite (P := fun r : Int × Ms => Alike s r.2) (.refl s) (p_ite (P := fun r : Int × Ms => Alike s r.2) h ⟨rfl, Nat.le_succ _, rfl⟩)
theorem runM_succ (k : Nat) (s : Ms) : runM (k + 1) s = if overB s.c then (0, s) else if (stepM s).1 = 0 then ((runM k (stepM s).2).1 + 1, (runM k (stepM s).2).2) else (0, (stepM s).2) := rfl
end Go.Pat
namespace Go.Proofs
open Go Go.RowKit Go.Pat
theorem rvRows_kept {w w' : World} {S : Nat → Prop} (h : RvRows w) (hk : KeptBut S w w') (hn : ¬ S 0) : RvRows w' :=
  ⟨Nat.lt_of_lt_of_le h.1 hk.size, fun op ho j v hv => (World.cell?_of_block (hk.block _ h.1 hn)).trans (h.2 op ho j v hv)⟩
/-- what a run leaves. -/
def RunTo (m p mb : Nat) (ov iv : Value) (s : Ms) (n : Nat) (w : World) (e : Ending) (w' : World) : Prop :=
  e = .returned (.int .i64 ((runM n s).1 : Int)) ∧ ∃ ov', MachAt w' m p mb ov' iv (runM n s).2 ∧ KeptBut (mine m s.fs ov) w w' ∧ (∀ g, ov'.ownBlock = some g → ov.ownBlock = some g ∨ w.heap.size ≤ g) ∧ (runM n s).2.fs.map (·.blk) = s.fs.map (·.blk)
set_option maxHeartbeats 8000000 in
theorem Run_any (w : World) (m p mb : Nat) (ov iv : Value) (s : Ms) (n : Nat) (hM : MachAt w m p mb ov iv s) (hR : RvRows w) (hsep : ¬ mine m s.fs ov 0) (hn : n ≤ 9223372036854775807) (hroom : s.c.out.length + n ≤ 140737488355328) :
    Calls Tryz.prog 26 #[.pointer (some ⟨m, 0, none⟩), .int .i64 (n : Int)] w (RunTo m p mb ov iv s n w) := by
  go_enter Tryz.func26, Tryz.ntmps26
  go_wp2
  go_loopw [5] (fun i wr => ∃ (k : Nat) (sk : Ms) (ovk : Value), k ≤ n ∧ i = .int .i64 k ∧ runM n s = ((runM (n - k) sk).1 + k, (runM (n - k) sk).2) ∧ MachAt wr m p mb ovk iv sk ∧ KeptBut (mine m s.fs ov) w wr ∧
    sk.fs.map (·.blk) = s.fs.map (·.blk) ∧ sk.c.out.length ≤ s.c.out.length + k ∧ ∀ g, ovk.ownBlock = some g → ov.ownBlock = some g ∨ w.heap.size ≤ g) (fun i _ => n - (intOf i).toNat)
  case atStart => exact ⟨0, s, ov, by omega, rfl, rfl, hM, .refl _ _, rfl, by omega, fun g h => .inl h⟩
  case round =>
    obtain ⟨k, sk, ovk, hk, rfl, hrun, hMk, hKk, hbk, hok, hvk⟩ := hrel
    have hRk := rvRows_kept hR hKk hsep
    by_cases hlt : k < n
    · have td : decide ((k : Int) < (n : Int)) = true := decide_eq_true (by omega)
      have hov := fun W h => over_any W m p mb ovk iv sk h
      cases ho : overB sk.c with
      | true =>
        have HE := Lib.hid (show runM n s = (k, sk) by rw [hrun, show n - k = (n - k - 1) + 1 by omega, runM_succ, if_pos ho]; simp)
        rw [ho] at hov
        have HV := Lib.hid hov
        clear hov ho hrun
        go_wp2_with fail
        refine Calls.mono (HV.out _ hMk) ?_
        rintro e w' ⟨rfl, rfl⟩
        go_wp2
        go_ret
        refine ⟨by rw [HE.out]; rfl, ovk, ?_, hKk, hvk, by rw [HE.out]; exact hbk⟩
        rw [HE.out]
        exact hMk
      | false =>
        rw [ho] at hov
        have HV := Lib.hid hov
        obtain ⟨r, hr⟩ : ∃ r, r = stepM sk := ⟨_, rfl⟩
        have HS := Lib.hid (Step_any _ m p mb ovk iv sk hMk hRk (by omega))
        have hal := stepM_alike sk
        have hr1 : runM (n - k) sk = if r.1 = 0 then ((runM (n - (k + 1)) r.2).1 + 1, (runM (n - (k + 1)) r.2).2) else (0, r.2) := by
          rw [show n - k = (n - (k + 1)) + 1 by omega, runM_succ, if_neg (by rw [ho]; decide), ← hr]
        rw [← hr] at HS hal
        clear hov ho hr
        by_cases h0 : r.1 = 0
        · rw [if_pos h0] at hr1
          have HN := Lib.hid (show runM n s = ((runM (n - (k + 1)) r.2).1 + (k + 1), (runM (n - (k + 1)) r.2).2) by rw [hrun, hr1]; simp only [Prod.mk.injEq, and_true]; omega)
          have H0 := Lib.hid h0
          clear hrun hr1 h0
          go_wp2_with fail
          refine Calls.mono (HV.out _ hMk) ?_
          rintro e w' ⟨rfl, rfl⟩
          go_wp2_with fail
          refine Calls.mono HS.out ?_
          rintro e w4 ⟨rfl, ov', hM4, hK4, hO4⟩
          rw [H0.out]
          go_wp2
          go_roundw
          case rel =>
            refine ⟨k + 1, r.2, ov', by omega, by go_num, HN.out, hM4, ?_, hal.1.trans hbk, by have := hal.2.1; omega, fun g h => ?_⟩
            · refine ⟨hK4.os.trans hKk.os, hK4.tape.trans hKk.tape, hK4.output.trans hKk.output, Nat.le_trans hKk.size hK4.size, fun j hj hnj => (hK4.block j (Nat.lt_of_lt_of_le hj hKk.size) (fun h => ?_)).trans (hKk.block j hj hnj)⟩
              rcases h with h | h | h
              · exact hnj (.inl h)
              · exact hnj (.inr (.inl (hbk ▸ h)))
              · rcases hvk j h with h | h
                · exact hnj (.inr (.inr h))
                · omega
            · rcases hO4 g h with h | h
              · exact hvk g h
              · exact .inr (Nat.le_trans hKk.size h)
          case measure => simp [intOf]; omega
        · rw [if_neg h0] at hr1
          have HN := Lib.hid (show runM n s = (k, r.2) by rw [hrun, hr1]; simp)
          have t0 : (r.1 == 0) = false := by simp [h0]
          clear hrun hr1 h0
          go_wp2_with fail
          refine Calls.mono (HV.out _ hMk) ?_
          rintro e w' ⟨rfl, rfl⟩
          go_wp2_with fail
          refine Calls.mono HS.out ?_
          rintro e w4 ⟨rfl, ov', hM4, hK4, hO4⟩
          go_wp2
          go_ret
          refine ⟨by rw [HN.out]; rfl, ov', ?_, ?_, ?_, by rw [HN.out]; exact hal.1.trans hbk⟩
          · rw [HN.out]; exact hM4
          · refine ⟨hK4.os.trans hKk.os, hK4.tape.trans hKk.tape, hK4.output.trans hKk.output, Nat.le_trans hKk.size hK4.size, fun j hj hnj => (hK4.block j (Nat.lt_of_lt_of_le hj hKk.size) (fun h => ?_)).trans (hKk.block j hj hnj)⟩
            rcases h with h | h | h
            · exact hnj (.inl h)
            · exact hnj (.inr (.inl (hbk ▸ h)))
            · rcases hvk j h with h | h
              · exact hnj (.inr (.inr h))
              · omega
          · intro g h
            rcases hO4 g h with h | h
            · exact hvk g h
            · exact .inr (Nat.le_trans hKk.size h)
    · have td : decide ((k : Int) < (n : Int)) = false := decide_eq_false (by omega)
      obtain rfl : k = n := by omega
      have HE := Lib.hid (show runM k s = (k, sk) by rw [hrun, Nat.sub_self]; simp [runM])
      clear hrun
      go_wp2
      go_ret
      refine ⟨by rw [HE.out]; rfl, ovk, ?_, hKk, hvk, by rw [HE.out]; exact hbk⟩
      rw [HE.out]
      exact hMk
end Go.Proofs

/- Runs of machines that differ only in where their pages lie; how far a run goes; register 0 stays 0. -/
namespace Go.Pat
open Go Go.RowKit
/-- a page, wherever it lies. -/
def Fr.cl (f : Fr) : Fr := { f with blk := 0, cap := 0 }
def Ms.cl (s : Ms) : Ms := { s with fs := s.fs.map Fr.cl }
theorem runM_out : ∀ (n : Nat) (s : Ms), (runM n s).2.c.out.length ≤ s.c.out.length + n ∧ (runM n s).2.inp = s.inp
  | 0, _ => ⟨Nat.le_refl _, rfl⟩
  | n + 1, s => by
    have ha := stepM_alike s
    rw [runM]
    by_cases h : overB s.c = true
    · rw [if_pos h]; exact ⟨by simp only; omega, rfl⟩
    · rw [if_neg h]
      by_cases h1 : (stepM s).1 = 0
      · rw [if_pos h1]
        have := runM_out n (stepM s).2
        have h2 := ha.2.1
        exact ⟨by simp only; omega, this.2.trans ha.2.2⟩
      · rw [if_neg h1]
        have h2 := ha.2.1
        exact ⟨by simp only; omega, ha.2.2⟩
end Go.Pat
