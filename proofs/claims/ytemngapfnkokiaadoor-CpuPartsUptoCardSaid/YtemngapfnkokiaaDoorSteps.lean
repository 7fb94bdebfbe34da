/- (*cpu.Machine).step: no word, or one that says nothing. -/
import Derived.Test.YtemngapfnkokiaaDoorStepC
import Derived.Deep.RegionHeld3
namespace Go.Proofs
open Go Go.RowKit Go.Pat
set_option maxRecDepth 20000 in
set_option maxHeartbeats 8000000 in
theorem step_nofetch (w : World) (m p mb : Nat) (ov iv : Value) (s : Ms) (hM : MachAt w m p mb ov iv s) (x : Nat) (z : Int) (hf : fetchM s.fs s.c.pc = (x, z)) (hz : z ≠ 0) :
    Calls Tryd.prog 63 #[.pointer (some ⟨m, 0, none⟩)] w (StepTo m p mb ov iv s (30, s) w) := by
  have hx : x < 4294967296 := by have := fetchM_lt s.fs s.c.pc; rw [hf] at this; exact this
  have a0 := hM.cpc
  have a39 := hM.cmem
  go_enter Tryd.func63, Tryd.ntmps63
  go_upto_region 1 with fail
  have hwd : Below w.heap.size w w.drew := (Below.refl _ _).drew
  go_region_held3 (fun w' => w'.cell? ⟨m, 0, none⟩ = some (.int .u64 (s.c.pc : Int)) ∧ w'.cell? ⟨m, 39, none⟩ = some (.pointer (some ⟨p, 0, none⟩)))
    (first | exact ⟨a0, a39⟩ | exact ⟨c0, c39⟩)
    (first | (go_at_call 94
              refine Calls.mono (Fetch_st w.drew p mb s.fs (hM.below hwd).mem s.c.pc hM.pc x z hf) ?_
              rintro e w1 ⟨rfl, hB1⟩
              have hB1' : Below w.heap.size w w1 := hwd.trans hB1
              have c0 := (hM.below hB1').cpc
              have c39 := (hM.below hB1').cmem))
  have tz : (z != 0) = true := by simp [hz]
  clear hf hB1 hwd c0 c39
  go_wp2
  go_ret
  exact ⟨rfl, ov, hM.below hB1', .of_below hB1', fun g h => .inl h⟩
set_option maxRecDepth 20000 in
set_option maxHeartbeats 8000000 in
theorem step_noword (w : World) (m p mb : Nat) (ov iv : Value) (s : Ms) (hM : MachAt w m p mb ov iv s) (hR : RvRows w) (x : Nat) (hf : fetchM s.fs s.c.pc = (x, 0)) (hi : decR x = none) :
    Calls Tryd.prog 63 #[.pointer (some ⟨m, 0, none⟩)] w (StepTo m p mb ov iv s (31, s) w) := by
  have hx : x < 4294967296 := by have := fetchM_lt s.fs s.c.pc; rw [hf] at this; exact this
  have a0 := hM.cpc
  have a39 := hM.cmem
  go_enter Tryd.func63, Tryd.ntmps63
  go_upto_region 1 with fail
  have hwd : Below w.heap.size w w.drew := (Below.refl _ _).drew
  go_region_held3 (fun w' => w'.cell? ⟨m, 0, none⟩ = some (.int .u64 (s.c.pc : Int)) ∧ w'.cell? ⟨m, 39, none⟩ = some (.pointer (some ⟨p, 0, none⟩)))
    (first | exact ⟨a0, a39⟩ | exact ⟨c0, c39⟩)
    (first | (go_at_call 94
              refine Calls.mono (Fetch_st w.drew p mb s.fs (hM.below hwd).mem s.c.pc hM.pc x 0 hf) ?_
              rintro e w1 ⟨rfl, hB1⟩
              have hB1' : Below w.heap.size w w1 := hwd.trans hB1
              have c0 := (hM.below hB1').cpc
              have c39 := (hM.below hB1').cmem))
  have hM1 := hM.below hB1'
  have hR1 := hR.below hB1'
  clear hf hB1 hwd c0 c39
  go_wp2_with fail
  refine Calls.mono (dec_none w1 hR1 x hx hi) ?_
  rintro e w2 ⟨rfl, hB2⟩
  go_upto_region 5 with fail
  have hB3 : Below w.heap.size w w2 := hB1'.trans (hB2.mono hB1'.size)
  have hBA := fun o => hB3.alloc hB3.size o
  go_wp2
  go_ret
  exact ⟨rfl, ov, hM.below (hBA _), .of_below (hBA _), fun g h => .inl h⟩
end Go.Proofs

/- (*cpu.Machine).step: the case Imm. -/
namespace Go.Proofs
open Go Go.RowKit Go.Pat
set_option maxRecDepth 20000 in
set_option maxHeartbeats 8000000 in
theorem step_Imm (w : World) (m p mb : Nat) (ov iv : Value) (s : Ms) (hM : MachAt w m p mb ov iv s) (hR : RvRows w) (x : Nat) (hf : fetchM s.fs s.c.pc = (x, 0)) (i : Ins) (hi : decR x = some i) (h1 : 22 ≤ i.op) (h2 : i.op ≤ 34) :
    Calls Tryd.prog 63 #[.pointer (some ⟨m, 0, none⟩)] w (StepTo m p mb ov iv s (execM i s) w) := by
  have hx : x < 4294967296 := by have := fetchM_lt s.fs s.c.pc; rw [hf] at this; exact this
  obtain ⟨b1, b2, b3, b4, b5⟩ := decR_some hi
  have a0 := hM.cpc
  have a39 := hM.cmem
  go_enter Tryd.func63, Tryd.ntmps63
  go_upto_region 1 with fail
  have hwd : Below w.heap.size w w.drew := (Below.refl _ _).drew
  go_region_held3 (fun w' => w'.cell? ⟨m, 0, none⟩ = some (.int .u64 (s.c.pc : Int)) ∧ w'.cell? ⟨m, 39, none⟩ = some (.pointer (some ⟨p, 0, none⟩)))
    (first | exact ⟨a0, a39⟩ | exact ⟨c0, c39⟩)
    (first | (go_at_call 94
              refine Calls.mono (Fetch_st w.drew p mb s.fs (hM.below hwd).mem s.c.pc hM.pc x 0 hf) ?_
              rintro e w1 ⟨rfl, hB1⟩
              have hB1' : Below w.heap.size w w1 := hwd.trans hB1
              have c0 := (hM.below hB1').cpc
              have c39 := (hM.below hB1').cmem))
  have hM1 := hM.below hB1'
  have hR1 := hR.below hB1'
  clear hf hB1 hwd c0 c39
  go_wp2_with fail
  refine Calls.mono (dec_st w1 hR1 x hx i hi) ?_
  rintro e w2 ⟨rfl, hB2⟩
  go_upto_region 5 with fail
  obtain ⟨w3, hw3⟩ : ∃ W : World, W = w2.alloc (.cells #[.int .i64 (i.op : Int), .int .i64 (i.rd : Int), .int .i64 (i.rs1 : Int), .int .i64 (i.rs2 : Int), .int .i64 i.imm] 32) := ⟨_, rfl⟩
  have hi0 : w3.heap[w2.heap.size]? = some (.cells #[.int .i64 (i.op : Int), .int .i64 (i.rd : Int), .int .i64 (i.rs1 : Int), .int .i64 (i.rs2 : Int), .int .i64 i.imm] 32 (0, 0)) := by rw [hw3]; exact heap_alloc_new w2 _
  have hB3 : Below w2.heap.size w2 w3 := by rw [hw3]; exact (Below.refl _ _).alloc (Nat.le_refl _) _
  rw [← hw3]
  clear hw3
  have hB : Below w.heap.size w w3 := hB1'.trans ((hB2.mono hB1'.size).trans (hB3.mono (Nat.le_trans hB1'.size hB2.size)))
  have hM3 := hM.below hB
  clear hM1 hR1 hB1' hB2 hB3 hR a0 a39 hi hx
  have i0 := (obj_cell hi0 0).trans rfl
  have i1 := (obj_cell hi0 1).trans rfl
  have i2 := (obj_cell hi0 2).trans rfl
  have i3 := (obj_cell hi0 3).trans rfl
  have i4 := (obj_cell hi0 4).trans rfl
  have a0 := hM3.cpc
  have r1 := hM3.creg i.rs1 b4
  have r2 := hM3.creg i.rs2 b5
  have n1 : (i.rs1 : Int) < 32 := by omega
  have n2 : (i.rs2 : Int) < 32 := by omega
  have n3 : (i.rd : Int) < 32 := by omega
  go_wp2_with fail
  go_quiet (fail)
  rw [show IntKind.u64.wrap i.imm = ((wrN i.imm : Nat) : Int) from (wrN_is _).symm, show IntKind.u64.wrap ((s.c.pc : Int) + 4) = ((nextPc s : Nat) : Int) from nextPc_is s]
  have rd := hM3.creg i.rd b3
  have fd := hM3.fz (1 + i.rd)
  have f0 := hM3.fz 0
  have e1 : ((i.op : Int) == 1) = false := eqF (b := 1) (by omega)
  have e2 : ((i.op : Int) == 2) = false := eqF (b := 2) (by omega)
  have e3 : ((i.op : Int) == 3) = false := eqF (b := 3) (by omega)
  have e4 : ((i.op : Int) == 4) = false := eqF (b := 4) (by omega)
  have e10 : decide ((i.op : Int) ≤ 10) = false := decide_eq_false (by omega)
  have e17 : decide ((i.op : Int) ≤ 17) = false := decide_eq_false (by omega)
  have e21 : decide ((i.op : Int) ≤ 21) = false := decide_eq_false (by omega)
  have e34 : decide ((i.op : Int) ≤ 34) = true := decide_eq_true (by omega)
  go_upto_region 32 with fail
  have HE := Lib.hid (show execM i s = (0, { s with c := s.c.put i.rd (aluV i.op (s.c.reg i.rs1) (wrN i.imm)).toNat (nextPc s) }) by unfold execM; rw [if_neg (by omega), if_neg (by omega), if_neg (by omega), if_neg (by omega), if_neg (by omega), if_neg (by omega), if_neg (by omega), if_pos (by omega)])
  obtain ⟨hv, hvl⟩ := aluV_nat i.op (s.c.reg i.rs1) (wrN i.imm) (by omega) (by omega) (hM3.small _) (wrN_lt _)
  obtain ⟨V, hV⟩ : ∃ V, V = (aluV i.op (s.c.reg i.rs1) (wrN i.imm)).toNat := ⟨_, rfl⟩
  rw [← hV] at hv hvl HE
  have hAl : ∀ W : World, Calls Tryd.prog 24 #[.int .i64 (i.op : Int), .int .u64 (s.c.reg i.rs1 : Nat), .int .u64 ((wrN i.imm) : Nat)] W fun e w' => e = .returned (.tuple #[.int .u64 (V : Int), .int .i64 0]) ∧ w' = W := fun W => by
    rw [← hv]; exact cAlu_in i.op (s.c.reg i.rs1) (wrN i.imm) (by omega) (by omega) (hM3.small _) (wrN_lt _) W
  have HA := Lib.hid hAl
  clear hAl hv hV h1 h2
  go_region_law (first | (go_simp; go_at_call 24; refine Calls.mono (HA.out _) ?_; rintro e w' ⟨rfl, rfl⟩))
  all_goals
    go_wp2
    go_ret
    refine ⟨by rw [HE.out]; rfl, ov, ?_, ?_⟩
    · rw [HE.out]
      exact ((hM3.below (bdrewN (Below.refl _ _) _)).putReg i.rd V b3 hvl).putPc (nextPc s) (nextPc_lt s)
    · exact ⟨((KeptBut.of_below (bdrewN hB _)).setCell _ (.inl rfl) _).setCell _ (.inl rfl) _, fun g h => .inl h⟩
end Go.Proofs

/- (*cpu.Machine).step: the case Reg. -/
namespace Go.Proofs
open Go Go.RowKit Go.Pat
set_option maxRecDepth 20000 in
set_option maxHeartbeats 8000000 in
theorem step_Reg (w : World) (m p mb : Nat) (ov iv : Value) (s : Ms) (hM : MachAt w m p mb ov iv s) (hR : RvRows w) (x : Nat) (hf : fetchM s.fs s.c.pc = (x, 0)) (i : Ins) (hi : decR x = some i) (h1 : 35 ≤ i.op) (h2 : i.op ≤ 62) :
    Calls Tryd.prog 63 #[.pointer (some ⟨m, 0, none⟩)] w (StepTo m p mb ov iv s (execM i s) w) := by
  have hx : x < 4294967296 := by have := fetchM_lt s.fs s.c.pc; rw [hf] at this; exact this
  obtain ⟨b1, b2, b3, b4, b5⟩ := decR_some hi
  have a0 := hM.cpc
  have a39 := hM.cmem
  go_enter Tryd.func63, Tryd.ntmps63
  go_upto_region 1 with fail
  have hwd : Below w.heap.size w w.drew := (Below.refl _ _).drew
  go_region_held3 (fun w' => w'.cell? ⟨m, 0, none⟩ = some (.int .u64 (s.c.pc : Int)) ∧ w'.cell? ⟨m, 39, none⟩ = some (.pointer (some ⟨p, 0, none⟩)))
    (first | exact ⟨a0, a39⟩ | exact ⟨c0, c39⟩)
    (first | (go_at_call 94
              refine Calls.mono (Fetch_st w.drew p mb s.fs (hM.below hwd).mem s.c.pc hM.pc x 0 hf) ?_
              rintro e w1 ⟨rfl, hB1⟩
              have hB1' : Below w.heap.size w w1 := hwd.trans hB1
              have c0 := (hM.below hB1').cpc
              have c39 := (hM.below hB1').cmem))
  have hM1 := hM.below hB1'
  have hR1 := hR.below hB1'
  clear hf hB1 hwd c0 c39
  go_wp2_with fail
  refine Calls.mono (dec_st w1 hR1 x hx i hi) ?_
  rintro e w2 ⟨rfl, hB2⟩
  go_upto_region 5 with fail
  obtain ⟨w3, hw3⟩ : ∃ W : World, W = w2.alloc (.cells #[.int .i64 (i.op : Int), .int .i64 (i.rd : Int), .int .i64 (i.rs1 : Int), .int .i64 (i.rs2 : Int), .int .i64 i.imm] 32) := ⟨_, rfl⟩
  have hi0 : w3.heap[w2.heap.size]? = some (.cells #[.int .i64 (i.op : Int), .int .i64 (i.rd : Int), .int .i64 (i.rs1 : Int), .int .i64 (i.rs2 : Int), .int .i64 i.imm] 32 (0, 0)) := by rw [hw3]; exact heap_alloc_new w2 _
  have hB3 : Below w2.heap.size w2 w3 := by rw [hw3]; exact (Below.refl _ _).alloc (Nat.le_refl _) _
  rw [← hw3]
  clear hw3
  have hB : Below w.heap.size w w3 := hB1'.trans ((hB2.mono hB1'.size).trans (hB3.mono (Nat.le_trans hB1'.size hB2.size)))
  have hM3 := hM.below hB
  clear hM1 hR1 hB1' hB2 hB3 hR a0 a39 hi hx
  have i0 := (obj_cell hi0 0).trans rfl
  have i1 := (obj_cell hi0 1).trans rfl
  have i2 := (obj_cell hi0 2).trans rfl
  have i3 := (obj_cell hi0 3).trans rfl
  have i4 := (obj_cell hi0 4).trans rfl
  have a0 := hM3.cpc
  have r1 := hM3.creg i.rs1 b4
  have r2 := hM3.creg i.rs2 b5
  have n1 : (i.rs1 : Int) < 32 := by omega
  have n2 : (i.rs2 : Int) < 32 := by omega
  have n3 : (i.rd : Int) < 32 := by omega
  go_wp2_with fail
  go_quiet (fail)
  rw [show IntKind.u64.wrap i.imm = ((wrN i.imm : Nat) : Int) from (wrN_is _).symm, show IntKind.u64.wrap ((s.c.pc : Int) + 4) = ((nextPc s : Nat) : Int) from nextPc_is s]
  have rd := hM3.creg i.rd b3
  have fd := hM3.fz (1 + i.rd)
  have f0 := hM3.fz 0
  have e1 : ((i.op : Int) == 1) = false := eqF (b := 1) (by omega)
  have e2 : ((i.op : Int) == 2) = false := eqF (b := 2) (by omega)
  have e3 : ((i.op : Int) == 3) = false := eqF (b := 3) (by omega)
  have e4 : ((i.op : Int) == 4) = false := eqF (b := 4) (by omega)
  have e10 : decide ((i.op : Int) ≤ 10) = false := decide_eq_false (by omega)
  have e17 : decide ((i.op : Int) ≤ 17) = false := decide_eq_false (by omega)
  have e21 : decide ((i.op : Int) ≤ 21) = false := decide_eq_false (by omega)
  have e34 : decide ((i.op : Int) ≤ 34) = false := decide_eq_false (by omega)
  have e62 : decide ((i.op : Int) ≤ 62) = true := decide_eq_true (by omega)
  go_upto_region 34 with fail
  have HE := Lib.hid (show execM i s = (0, { s with c := s.c.put i.rd (aluV i.op (s.c.reg i.rs1) (s.c.reg i.rs2)).toNat (nextPc s) }) by unfold execM; rw [if_neg (by omega), if_neg (by omega), if_neg (by omega), if_neg (by omega), if_neg (by omega), if_neg (by omega), if_neg (by omega), if_neg (by omega), if_pos (by omega)])
  obtain ⟨hv, hvl⟩ := aluV_nat i.op (s.c.reg i.rs1) (s.c.reg i.rs2) (by omega) (by omega) (hM3.small _) (hM3.small _)
  obtain ⟨V, hV⟩ : ∃ V, V = (aluV i.op (s.c.reg i.rs1) (s.c.reg i.rs2)).toNat := ⟨_, rfl⟩
  rw [← hV] at hv hvl HE
  have hAl : ∀ W : World, Calls Tryd.prog 24 #[.int .i64 (i.op : Int), .int .u64 (s.c.reg i.rs1 : Nat), .int .u64 ((s.c.reg i.rs2) : Nat)] W fun e w' => e = .returned (.tuple #[.int .u64 (V : Int), .int .i64 0]) ∧ w' = W := fun W => by
    rw [← hv]; exact cAlu_in i.op (s.c.reg i.rs1) (s.c.reg i.rs2) (by omega) (by omega) (hM3.small _) (hM3.small _) W
  have HA := Lib.hid hAl
  clear hAl hv hV h1 h2
  go_region_law (first | (go_simp; go_at_call 24; refine Calls.mono (HA.out _) ?_; rintro e w' ⟨rfl, rfl⟩))
  all_goals
    go_wp2
    go_ret
    refine ⟨by rw [HE.out]; rfl, ov, ?_, ?_⟩
    · rw [HE.out]
      exact ((hM3.below (bdrewN (Below.refl _ _) _)).putReg i.rd V b3 hvl).putPc (nextPc s) (nextPc_lt s)
    · exact ⟨((KeptBut.of_below (bdrewN hB _)).setCell _ (.inl rfl) _).setCell _ (.inl rfl) _, fun g h => .inl h⟩
end Go.Proofs

/- (*cpu.Machine).step: the case Lui. -/
namespace Go.Proofs
open Go Go.RowKit Go.Pat
set_option maxRecDepth 20000 in
set_option maxHeartbeats 8000000 in
theorem step_Lui (w : World) (m p mb : Nat) (ov iv : Value) (s : Ms) (hM : MachAt w m p mb ov iv s) (hR : RvRows w) (x : Nat) (hf : fetchM s.fs s.c.pc = (x, 0)) (i : Ins) (hi : decR x = some i) (h1 : 1 ≤ i.op) (h2 : i.op ≤ 1) :
    Calls Tryd.prog 63 #[.pointer (some ⟨m, 0, none⟩)] w (StepTo m p mb ov iv s (execM i s) w) := by
  have hx : x < 4294967296 := by have := fetchM_lt s.fs s.c.pc; rw [hf] at this; exact this
  obtain ⟨b1, b2, b3, b4, b5⟩ := decR_some hi
  have a0 := hM.cpc
  have a39 := hM.cmem
  go_enter Tryd.func63, Tryd.ntmps63
  go_upto_region 1 with fail
  have hwd : Below w.heap.size w w.drew := (Below.refl _ _).drew
  go_region_held3 (fun w' => w'.cell? ⟨m, 0, none⟩ = some (.int .u64 (s.c.pc : Int)) ∧ w'.cell? ⟨m, 39, none⟩ = some (.pointer (some ⟨p, 0, none⟩)))
    (first | exact ⟨a0, a39⟩ | exact ⟨c0, c39⟩)
    (first | (go_at_call 94
              refine Calls.mono (Fetch_st w.drew p mb s.fs (hM.below hwd).mem s.c.pc hM.pc x 0 hf) ?_
              rintro e w1 ⟨rfl, hB1⟩
              have hB1' : Below w.heap.size w w1 := hwd.trans hB1
              have c0 := (hM.below hB1').cpc
              have c39 := (hM.below hB1').cmem))
  have hM1 := hM.below hB1'
  have hR1 := hR.below hB1'
  clear hf hB1 hwd c0 c39
  go_wp2_with fail
  refine Calls.mono (dec_st w1 hR1 x hx i hi) ?_
  rintro e w2 ⟨rfl, hB2⟩
  go_upto_region 5 with fail
  obtain ⟨w3, hw3⟩ : ∃ W : World, W = w2.alloc (.cells #[.int .i64 (i.op : Int), .int .i64 (i.rd : Int), .int .i64 (i.rs1 : Int), .int .i64 (i.rs2 : Int), .int .i64 i.imm] 32) := ⟨_, rfl⟩
  have hi0 : w3.heap[w2.heap.size]? = some (.cells #[.int .i64 (i.op : Int), .int .i64 (i.rd : Int), .int .i64 (i.rs1 : Int), .int .i64 (i.rs2 : Int), .int .i64 i.imm] 32 (0, 0)) := by rw [hw3]; exact heap_alloc_new w2 _
  have hB3 : Below w2.heap.size w2 w3 := by rw [hw3]; exact (Below.refl _ _).alloc (Nat.le_refl _) _
  rw [← hw3]
  clear hw3
  have hB : Below w.heap.size w w3 := hB1'.trans ((hB2.mono hB1'.size).trans (hB3.mono (Nat.le_trans hB1'.size hB2.size)))
  have hM3 := hM.below hB
  clear hM1 hR1 hB1' hB2 hB3 hR a0 a39 hi hx
  have i0 := (obj_cell hi0 0).trans rfl
  have i1 := (obj_cell hi0 1).trans rfl
  have i2 := (obj_cell hi0 2).trans rfl
  have i3 := (obj_cell hi0 3).trans rfl
  have i4 := (obj_cell hi0 4).trans rfl
  have a0 := hM3.cpc
  have r1 := hM3.creg i.rs1 b4
  have r2 := hM3.creg i.rs2 b5
  have n1 : (i.rs1 : Int) < 32 := by omega
  have n2 : (i.rs2 : Int) < 32 := by omega
  have n3 : (i.rd : Int) < 32 := by omega
  go_wp2_with fail
  go_quiet (fail)
  rw [show IntKind.u64.wrap i.imm = ((wrN i.imm : Nat) : Int) from (wrN_is _).symm, show IntKind.u64.wrap ((s.c.pc : Int) + 4) = ((nextPc s : Nat) : Int) from nextPc_is s]
  have rd := hM3.creg i.rd b3
  have fd := hM3.fz (1 + i.rd)
  have f0 := hM3.fz 0
  have e1 : ((i.op : Int) == 1) = true := eqT (b := 1) (by omega)
  go_upto_region 10 with fail
  have HE := Lib.hid (show execM i s = (0, { s with c := s.c.put i.rd (wrN i.imm * 4096 % 18446744073709551616) (nextPc s) }) by unfold execM; rw [if_pos (by omega)])
  go_region
  all_goals
    go_wp2
    go_ret
    rw [lui_is]
    refine ⟨by rw [HE.out]; rfl, ov, ?_, ?_⟩
    · rw [HE.out]
      exact ((hM3.below (bdrewN (Below.refl _ _) _)).putReg i.rd (wrN i.imm * 4096 % 18446744073709551616) b3 (mod64_lt _)).putPc (nextPc s) (nextPc_lt s)
    · exact ⟨((KeptBut.of_below (bdrewN hB _)).setCell _ (.inl rfl) _).setCell _ (.inl rfl) _, fun g h => .inl h⟩
end Go.Proofs

/- (*cpu.Machine).step: the case Aui. -/
namespace Go.Proofs
open Go Go.RowKit Go.Pat
set_option maxRecDepth 20000 in
set_option maxHeartbeats 8000000 in
theorem step_Aui (w : World) (m p mb : Nat) (ov iv : Value) (s : Ms) (hM : MachAt w m p mb ov iv s) (hR : RvRows w) (x : Nat) (hf : fetchM s.fs s.c.pc = (x, 0)) (i : Ins) (hi : decR x = some i) (h1 : 2 ≤ i.op) (h2 : i.op ≤ 2) :
    Calls Tryd.prog 63 #[.pointer (some ⟨m, 0, none⟩)] w (StepTo m p mb ov iv s (execM i s) w) := by
  have hx : x < 4294967296 := by have := fetchM_lt s.fs s.c.pc; rw [hf] at this; exact this
  obtain ⟨b1, b2, b3, b4, b5⟩ := decR_some hi
  have a0 := hM.cpc
  have a39 := hM.cmem
  go_enter Tryd.func63, Tryd.ntmps63
  go_upto_region 1 with fail
  have hwd : Below w.heap.size w w.drew := (Below.refl _ _).drew
  go_region_held3 (fun w' => w'.cell? ⟨m, 0, none⟩ = some (.int .u64 (s.c.pc : Int)) ∧ w'.cell? ⟨m, 39, none⟩ = some (.pointer (some ⟨p, 0, none⟩)))
    (first | exact ⟨a0, a39⟩ | exact ⟨c0, c39⟩)
    (first | (go_at_call 94
              refine Calls.mono (Fetch_st w.drew p mb s.fs (hM.below hwd).mem s.c.pc hM.pc x 0 hf) ?_
              rintro e w1 ⟨rfl, hB1⟩
              have hB1' : Below w.heap.size w w1 := hwd.trans hB1
              have c0 := (hM.below hB1').cpc
              have c39 := (hM.below hB1').cmem))
  have hM1 := hM.below hB1'
  have hR1 := hR.below hB1'
  clear hf hB1 hwd c0 c39
  go_wp2_with fail
  refine Calls.mono (dec_st w1 hR1 x hx i hi) ?_
  rintro e w2 ⟨rfl, hB2⟩
  go_upto_region 5 with fail
  obtain ⟨w3, hw3⟩ : ∃ W : World, W = w2.alloc (.cells #[.int .i64 (i.op : Int), .int .i64 (i.rd : Int), .int .i64 (i.rs1 : Int), .int .i64 (i.rs2 : Int), .int .i64 i.imm] 32) := ⟨_, rfl⟩
  have hi0 : w3.heap[w2.heap.size]? = some (.cells #[.int .i64 (i.op : Int), .int .i64 (i.rd : Int), .int .i64 (i.rs1 : Int), .int .i64 (i.rs2 : Int), .int .i64 i.imm] 32 (0, 0)) := by rw [hw3]; exact heap_alloc_new w2 _
  have hB3 : Below w2.heap.size w2 w3 := by rw [hw3]; exact (Below.refl _ _).alloc (Nat.le_refl _) _
  rw [← hw3]
  clear hw3
  have hB : Below w.heap.size w w3 := hB1'.trans ((hB2.mono hB1'.size).trans (hB3.mono (Nat.le_trans hB1'.size hB2.size)))
  have hM3 := hM.below hB
  clear hM1 hR1 hB1' hB2 hB3 hR a0 a39 hi hx
  have i0 := (obj_cell hi0 0).trans rfl
  have i1 := (obj_cell hi0 1).trans rfl
  have i2 := (obj_cell hi0 2).trans rfl
  have i3 := (obj_cell hi0 3).trans rfl
  have i4 := (obj_cell hi0 4).trans rfl
  have a0 := hM3.cpc
  have r1 := hM3.creg i.rs1 b4
  have r2 := hM3.creg i.rs2 b5
  have n1 : (i.rs1 : Int) < 32 := by omega
  have n2 : (i.rs2 : Int) < 32 := by omega
  have n3 : (i.rd : Int) < 32 := by omega
  go_wp2_with fail
  go_quiet (fail)
  rw [show IntKind.u64.wrap i.imm = ((wrN i.imm : Nat) : Int) from (wrN_is _).symm, show IntKind.u64.wrap ((s.c.pc : Int) + 4) = ((nextPc s : Nat) : Int) from nextPc_is s]
  have rd := hM3.creg i.rd b3
  have fd := hM3.fz (1 + i.rd)
  have f0 := hM3.fz 0
  have e1 : ((i.op : Int) == 1) = false := eqF (b := 1) (by omega)
  have e2 : ((i.op : Int) == 2) = true := eqT (b := 2) (by omega)
  go_upto_region 12 with fail
  have HE := Lib.hid (show execM i s = (0, { s with c := s.c.put i.rd ((s.c.pc + wrN i.imm * 4096) % 18446744073709551616) (nextPc s) }) by unfold execM; rw [if_neg (by omega), if_pos (by omega)])
  go_region
  all_goals
    go_wp2
    go_ret
    rw [aui_is]
    refine ⟨by rw [HE.out]; rfl, ov, ?_, ?_⟩
    · rw [HE.out]
      exact ((hM3.below (bdrewN (Below.refl _ _) _)).putReg i.rd ((s.c.pc + wrN i.imm * 4096) % 18446744073709551616) b3 (mod64_lt _)).putPc (nextPc s) (nextPc_lt s)
    · exact ⟨((KeptBut.of_below (bdrewN hB _)).setCell _ (.inl rfl) _).setCell _ (.inl rfl) _, fun g h => .inl h⟩
end Go.Proofs

/- (*cpu.Machine).step: the case Jal. -/
namespace Go.Proofs
open Go Go.RowKit Go.Pat
set_option maxRecDepth 20000 in
set_option maxHeartbeats 8000000 in
theorem step_Jal (w : World) (m p mb : Nat) (ov iv : Value) (s : Ms) (hM : MachAt w m p mb ov iv s) (hR : RvRows w) (x : Nat) (hf : fetchM s.fs s.c.pc = (x, 0)) (i : Ins) (hi : decR x = some i) (h1 : 3 ≤ i.op) (h2 : i.op ≤ 3) :
    Calls Tryd.prog 63 #[.pointer (some ⟨m, 0, none⟩)] w (StepTo m p mb ov iv s (execM i s) w) := by
  have hx : x < 4294967296 := by have := fetchM_lt s.fs s.c.pc; rw [hf] at this; exact this
  obtain ⟨b1, b2, b3, b4, b5⟩ := decR_some hi
  have a0 := hM.cpc
  have a39 := hM.cmem
  go_enter Tryd.func63, Tryd.ntmps63
  go_upto_region 1 with fail
  have hwd : Below w.heap.size w w.drew := (Below.refl _ _).drew
  go_region_held3 (fun w' => w'.cell? ⟨m, 0, none⟩ = some (.int .u64 (s.c.pc : Int)) ∧ w'.cell? ⟨m, 39, none⟩ = some (.pointer (some ⟨p, 0, none⟩)))
    (first | exact ⟨a0, a39⟩ | exact ⟨c0, c39⟩)
    (first | (go_at_call 94
              refine Calls.mono (Fetch_st w.drew p mb s.fs (hM.below hwd).mem s.c.pc hM.pc x 0 hf) ?_
              rintro e w1 ⟨rfl, hB1⟩
              have hB1' : Below w.heap.size w w1 := hwd.trans hB1
              have c0 := (hM.below hB1').cpc
              have c39 := (hM.below hB1').cmem))
  have hM1 := hM.below hB1'
  have hR1 := hR.below hB1'
  clear hf hB1 hwd c0 c39
  go_wp2_with fail
  refine Calls.mono (dec_st w1 hR1 x hx i hi) ?_
  rintro e w2 ⟨rfl, hB2⟩
  go_upto_region 5 with fail
  obtain ⟨w3, hw3⟩ : ∃ W : World, W = w2.alloc (.cells #[.int .i64 (i.op : Int), .int .i64 (i.rd : Int), .int .i64 (i.rs1 : Int), .int .i64 (i.rs2 : Int), .int .i64 i.imm] 32) := ⟨_, rfl⟩
  have hi0 : w3.heap[w2.heap.size]? = some (.cells #[.int .i64 (i.op : Int), .int .i64 (i.rd : Int), .int .i64 (i.rs1 : Int), .int .i64 (i.rs2 : Int), .int .i64 i.imm] 32 (0, 0)) := by rw [hw3]; exact heap_alloc_new w2 _
  have hB3 : Below w2.heap.size w2 w3 := by rw [hw3]; exact (Below.refl _ _).alloc (Nat.le_refl _) _
  rw [← hw3]
  clear hw3
  have hB : Below w.heap.size w w3 := hB1'.trans ((hB2.mono hB1'.size).trans (hB3.mono (Nat.le_trans hB1'.size hB2.size)))
  have hM3 := hM.below hB
  clear hM1 hR1 hB1' hB2 hB3 hR a0 a39 hi hx
  have i0 := (obj_cell hi0 0).trans rfl
  have i1 := (obj_cell hi0 1).trans rfl
  have i2 := (obj_cell hi0 2).trans rfl
  have i3 := (obj_cell hi0 3).trans rfl
  have i4 := (obj_cell hi0 4).trans rfl
  have a0 := hM3.cpc
  have r1 := hM3.creg i.rs1 b4
  have r2 := hM3.creg i.rs2 b5
  have n1 : (i.rs1 : Int) < 32 := by omega
  have n2 : (i.rs2 : Int) < 32 := by omega
  have n3 : (i.rd : Int) < 32 := by omega
  go_wp2_with fail
  go_quiet (fail)
  rw [show IntKind.u64.wrap i.imm = ((wrN i.imm : Nat) : Int) from (wrN_is _).symm, show IntKind.u64.wrap ((s.c.pc : Int) + 4) = ((nextPc s : Nat) : Int) from nextPc_is s]
  have rd := hM3.creg i.rd b3
  have fd := hM3.fz (1 + i.rd)
  have f0 := hM3.fz 0
  have e1 : ((i.op : Int) == 1) = false := eqF (b := 1) (by omega)
  have e2 : ((i.op : Int) == 2) = false := eqF (b := 2) (by omega)
  have e3 : ((i.op : Int) == 3) = true := eqT (b := 3) (by omega)
  go_upto_region 14 with fail
  have HE := Lib.hid (show execM i s = (0, { s with c := s.c.put i.rd (nextPc s) ((s.c.pc + wrN i.imm) % 18446744073709551616) }) by unfold execM; rw [if_neg (by omega), if_neg (by omega), if_pos (by omega)])
  go_region
  all_goals
    go_wp2
    go_ret
    rw [add_is]
    refine ⟨by rw [HE.out]; rfl, ov, ?_, ?_⟩
    · rw [HE.out]
      exact ((hM3.below (bdrewN (Below.refl _ _) _)).putReg i.rd (nextPc s) b3 (nextPc_lt s)).putPc ((s.c.pc + wrN i.imm) % 18446744073709551616) (mod64_lt _)
    · exact ⟨((KeptBut.of_below (bdrewN hB _)).setCell _ (.inl rfl) _).setCell _ (.inl rfl) _, fun g h => .inl h⟩
end Go.Proofs

/- (*cpu.Machine).step: the case Jalr. -/
namespace Go.Proofs
open Go Go.RowKit Go.Pat
set_option maxRecDepth 20000 in
set_option maxHeartbeats 8000000 in
theorem step_Jalr (w : World) (m p mb : Nat) (ov iv : Value) (s : Ms) (hM : MachAt w m p mb ov iv s) (hR : RvRows w) (x : Nat) (hf : fetchM s.fs s.c.pc = (x, 0)) (i : Ins) (hi : decR x = some i) (h1 : 4 ≤ i.op) (h2 : i.op ≤ 4) :
    Calls Tryd.prog 63 #[.pointer (some ⟨m, 0, none⟩)] w (StepTo m p mb ov iv s (execM i s) w) := by
  have hx : x < 4294967296 := by have := fetchM_lt s.fs s.c.pc; rw [hf] at this; exact this
  obtain ⟨b1, b2, b3, b4, b5⟩ := decR_some hi
  have a0 := hM.cpc
  have a39 := hM.cmem
  go_enter Tryd.func63, Tryd.ntmps63
  go_upto_region 1 with fail
  have hwd : Below w.heap.size w w.drew := (Below.refl _ _).drew
  go_region_held3 (fun w' => w'.cell? ⟨m, 0, none⟩ = some (.int .u64 (s.c.pc : Int)) ∧ w'.cell? ⟨m, 39, none⟩ = some (.pointer (some ⟨p, 0, none⟩)))
    (first | exact ⟨a0, a39⟩ | exact ⟨c0, c39⟩)
    (first | (go_at_call 94
              refine Calls.mono (Fetch_st w.drew p mb s.fs (hM.below hwd).mem s.c.pc hM.pc x 0 hf) ?_
              rintro e w1 ⟨rfl, hB1⟩
              have hB1' : Below w.heap.size w w1 := hwd.trans hB1
              have c0 := (hM.below hB1').cpc
              have c39 := (hM.below hB1').cmem))
  have hM1 := hM.below hB1'
  have hR1 := hR.below hB1'
  clear hf hB1 hwd c0 c39
  go_wp2_with fail
  refine Calls.mono (dec_st w1 hR1 x hx i hi) ?_
  rintro e w2 ⟨rfl, hB2⟩
  go_upto_region 5 with fail
  obtain ⟨w3, hw3⟩ : ∃ W : World, W = w2.alloc (.cells #[.int .i64 (i.op : Int), .int .i64 (i.rd : Int), .int .i64 (i.rs1 : Int), .int .i64 (i.rs2 : Int), .int .i64 i.imm] 32) := ⟨_, rfl⟩
  have hi0 : w3.heap[w2.heap.size]? = some (.cells #[.int .i64 (i.op : Int), .int .i64 (i.rd : Int), .int .i64 (i.rs1 : Int), .int .i64 (i.rs2 : Int), .int .i64 i.imm] 32 (0, 0)) := by rw [hw3]; exact heap_alloc_new w2 _
  have hB3 : Below w2.heap.size w2 w3 := by rw [hw3]; exact (Below.refl _ _).alloc (Nat.le_refl _) _
  rw [← hw3]
  clear hw3
  have hB : Below w.heap.size w w3 := hB1'.trans ((hB2.mono hB1'.size).trans (hB3.mono (Nat.le_trans hB1'.size hB2.size)))
  have hM3 := hM.below hB
  clear hM1 hR1 hB1' hB2 hB3 hR a0 a39 hi hx
  have i0 := (obj_cell hi0 0).trans rfl
  have i1 := (obj_cell hi0 1).trans rfl
  have i2 := (obj_cell hi0 2).trans rfl
  have i3 := (obj_cell hi0 3).trans rfl
  have i4 := (obj_cell hi0 4).trans rfl
  have a0 := hM3.cpc
  have r1 := hM3.creg i.rs1 b4
  have r2 := hM3.creg i.rs2 b5
  have n1 : (i.rs1 : Int) < 32 := by omega
  have n2 : (i.rs2 : Int) < 32 := by omega
  have n3 : (i.rd : Int) < 32 := by omega
  go_wp2_with fail
  go_quiet (fail)
  rw [show IntKind.u64.wrap i.imm = ((wrN i.imm : Nat) : Int) from (wrN_is _).symm, show IntKind.u64.wrap ((s.c.pc : Int) + 4) = ((nextPc s : Nat) : Int) from nextPc_is s]
  have rd := hM3.creg i.rd b3
  have fd := hM3.fz (1 + i.rd)
  have f0 := hM3.fz 0
  have e1 : ((i.op : Int) == 1) = false := eqF (b := 1) (by omega)
  have e2 : ((i.op : Int) == 2) = false := eqF (b := 2) (by omega)
  have e3 : ((i.op : Int) == 3) = false := eqF (b := 3) (by omega)
  have e4 : ((i.op : Int) == 4) = true := eqT (b := 4) (by omega)
  go_upto_region 17 with fail
  have HE := Lib.hid (show execM i s = (0, { s with c := s.c.put i.rd (nextPc s) ((s.c.reg i.rs1 + wrN i.imm) % 18446744073709551616 / 2 * 2) }) by unfold execM; rw [if_neg (by omega), if_neg (by omega), if_neg (by omega), if_pos (by omega)])
  go_region
  all_goals
    go_wp2
    go_ret
    rw [add_is, even_is _ (mod64_lt _)]
    refine ⟨by rw [HE.out]; rfl, ov, ?_, ?_⟩
    · rw [HE.out]
      exact ((hM3.below (bdrewN (Below.refl _ _) _)).putReg i.rd (nextPc s) b3 (nextPc_lt s)).putPc ((s.c.reg i.rs1 + wrN i.imm) % 18446744073709551616 / 2 * 2) (Nat.lt_of_le_of_lt (Nat.div_mul_le_self _ _) (mod64_lt _))
    · exact ⟨((KeptBut.of_below (bdrewN hB _)).setCell _ (.inl rfl) _).setCell _ (.inl rfl) _, fun g h => .inl h⟩
end Go.Proofs

/- (*cpu.Machine).step: the case Br. -/
namespace Go.Proofs
open Go Go.RowKit Go.Pat
set_option maxRecDepth 20000 in
set_option maxHeartbeats 8000000 in
theorem step_Br (w : World) (m p mb : Nat) (ov iv : Value) (s : Ms) (hM : MachAt w m p mb ov iv s) (hR : RvRows w) (x : Nat) (hf : fetchM s.fs s.c.pc = (x, 0)) (i : Ins) (hi : decR x = some i) (h1 : 5 ≤ i.op) (h2 : i.op ≤ 10) :
    Calls Tryd.prog 63 #[.pointer (some ⟨m, 0, none⟩)] w (StepTo m p mb ov iv s (execM i s) w) := by
  have hx : x < 4294967296 := by have := fetchM_lt s.fs s.c.pc; rw [hf] at this; exact this
  obtain ⟨b1, b2, b3, b4, b5⟩ := decR_some hi
  have a0 := hM.cpc
  have a39 := hM.cmem
  go_enter Tryd.func63, Tryd.ntmps63
  go_upto_region 1 with fail
  have hwd : Below w.heap.size w w.drew := (Below.refl _ _).drew
  go_region_held3 (fun w' => w'.cell? ⟨m, 0, none⟩ = some (.int .u64 (s.c.pc : Int)) ∧ w'.cell? ⟨m, 39, none⟩ = some (.pointer (some ⟨p, 0, none⟩)))
    (first | exact ⟨a0, a39⟩ | exact ⟨c0, c39⟩)
    (first | (go_at_call 94
              refine Calls.mono (Fetch_st w.drew p mb s.fs (hM.below hwd).mem s.c.pc hM.pc x 0 hf) ?_
              rintro e w1 ⟨rfl, hB1⟩
              have hB1' : Below w.heap.size w w1 := hwd.trans hB1
              have c0 := (hM.below hB1').cpc
              have c39 := (hM.below hB1').cmem))
  have hM1 := hM.below hB1'
  have hR1 := hR.below hB1'
  clear hf hB1 hwd c0 c39
  go_wp2_with fail
  refine Calls.mono (dec_st w1 hR1 x hx i hi) ?_
  rintro e w2 ⟨rfl, hB2⟩
  go_upto_region 5 with fail
  obtain ⟨w3, hw3⟩ : ∃ W : World, W = w2.alloc (.cells #[.int .i64 (i.op : Int), .int .i64 (i.rd : Int), .int .i64 (i.rs1 : Int), .int .i64 (i.rs2 : Int), .int .i64 i.imm] 32) := ⟨_, rfl⟩
  have hi0 : w3.heap[w2.heap.size]? = some (.cells #[.int .i64 (i.op : Int), .int .i64 (i.rd : Int), .int .i64 (i.rs1 : Int), .int .i64 (i.rs2 : Int), .int .i64 i.imm] 32 (0, 0)) := by rw [hw3]; exact heap_alloc_new w2 _
  have hB3 : Below w2.heap.size w2 w3 := by rw [hw3]; exact (Below.refl _ _).alloc (Nat.le_refl _) _
  rw [← hw3]
  clear hw3
  have hB : Below w.heap.size w w3 := hB1'.trans ((hB2.mono hB1'.size).trans (hB3.mono (Nat.le_trans hB1'.size hB2.size)))
  have hM3 := hM.below hB
  clear hM1 hR1 hB1' hB2 hB3 hR a0 a39 hi hx
  have i0 := (obj_cell hi0 0).trans rfl
  have i1 := (obj_cell hi0 1).trans rfl
  have i2 := (obj_cell hi0 2).trans rfl
  have i3 := (obj_cell hi0 3).trans rfl
  have i4 := (obj_cell hi0 4).trans rfl
  have a0 := hM3.cpc
  have r1 := hM3.creg i.rs1 b4
  have r2 := hM3.creg i.rs2 b5
  have n1 : (i.rs1 : Int) < 32 := by omega
  have n2 : (i.rs2 : Int) < 32 := by omega
  have n3 : (i.rd : Int) < 32 := by omega
  go_wp2_with fail
  go_quiet (fail)
  rw [show IntKind.u64.wrap i.imm = ((wrN i.imm : Nat) : Int) from (wrN_is _).symm, show IntKind.u64.wrap ((s.c.pc : Int) + 4) = ((nextPc s : Nat) : Int) from nextPc_is s]
  have rd := hM3.creg i.rd b3
  have fd := hM3.fz (1 + i.rd)
  have f0 := hM3.fz 0
  have e1 : ((i.op : Int) == 1) = false := eqF (b := 1) (by omega)
  have e2 : ((i.op : Int) == 2) = false := eqF (b := 2) (by omega)
  have e3 : ((i.op : Int) == 3) = false := eqF (b := 3) (by omega)
  have e4 : ((i.op : Int) == 4) = false := eqF (b := 4) (by omega)
  have e10 : decide ((i.op : Int) ≤ 10) = true := decide_eq_true (by omega)
  go_wp2_with fail
  refine Calls.mono (cTaken_any _ _ _ _) ?_
  rintro e w' ⟨rfl, rfl⟩
  cases hb : (takenV (i.op : Int) (s.c.reg i.rs1) (s.c.reg i.rs2)).1 with
  | true =>
    have HE := Lib.hid (show execM i s = (0, { s with c := { s.c with pc := ((s.c.pc + wrN i.imm) % 18446744073709551616) } }) by unfold execM; rw [if_neg (by omega), if_neg (by omega), if_neg (by omega), if_neg (by omega), if_pos (by omega), hb]; rfl)
    clear hb
    all_goals
      go_wp2
      go_ret
      rw [add_is]
      refine ⟨by rw [HE.out]; rfl, ov, ?_, ?_⟩
      · rw [HE.out]
        exact (hM3.below (bdrewN (Below.refl _ _) _)).putPc ((s.c.pc + wrN i.imm) % 18446744073709551616) (mod64_lt _)
      · exact ⟨(KeptBut.of_below (bdrewN hB _)).setCell _ (.inl rfl) _, fun g h => .inl h⟩
  | false =>
    have HE := Lib.hid (show execM i s = (0, { s with c := { s.c with pc := (nextPc s) } }) by unfold execM; rw [if_neg (by omega), if_neg (by omega), if_neg (by omega), if_neg (by omega), if_pos (by omega), hb]; rfl)
    clear hb
    all_goals
      go_wp2
      go_ret
      refine ⟨by rw [HE.out]; rfl, ov, ?_, ?_⟩
      · rw [HE.out]
        exact (hM3.below (bdrewN (Below.refl _ _) _)).putPc (nextPc s) (nextPc_lt s)
      · exact ⟨(KeptBut.of_below (bdrewN hB _)).setCell _ (.inl rfl) _, fun g h => .inl h⟩
end Go.Proofs

/- (*cpu.Machine).step: the case Fen. -/
namespace Go.Proofs
open Go Go.RowKit Go.Pat
set_option maxRecDepth 20000 in
set_option maxHeartbeats 8000000 in
theorem step_Fen (w : World) (m p mb : Nat) (ov iv : Value) (s : Ms) (hM : MachAt w m p mb ov iv s) (hR : RvRows w) (x : Nat) (hf : fetchM s.fs s.c.pc = (x, 0)) (i : Ins) (hi : decR x = some i) (h1 : 63 ≤ i.op) (h2 : i.op ≤ 63) :
    Calls Tryd.prog 63 #[.pointer (some ⟨m, 0, none⟩)] w (StepTo m p mb ov iv s (execM i s) w) := by
  have hx : x < 4294967296 := by have := fetchM_lt s.fs s.c.pc; rw [hf] at this; exact this
  obtain ⟨b1, b2, b3, b4, b5⟩ := decR_some hi
  have a0 := hM.cpc
  have a39 := hM.cmem
  go_enter Tryd.func63, Tryd.ntmps63
  go_upto_region 1 with fail
  have hwd : Below w.heap.size w w.drew := (Below.refl _ _).drew
  go_region_held3 (fun w' => w'.cell? ⟨m, 0, none⟩ = some (.int .u64 (s.c.pc : Int)) ∧ w'.cell? ⟨m, 39, none⟩ = some (.pointer (some ⟨p, 0, none⟩)))
    (first | exact ⟨a0, a39⟩ | exact ⟨c0, c39⟩)
    (first | (go_at_call 94
              refine Calls.mono (Fetch_st w.drew p mb s.fs (hM.below hwd).mem s.c.pc hM.pc x 0 hf) ?_
              rintro e w1 ⟨rfl, hB1⟩
              have hB1' : Below w.heap.size w w1 := hwd.trans hB1
              have c0 := (hM.below hB1').cpc
              have c39 := (hM.below hB1').cmem))
  have hM1 := hM.below hB1'
  have hR1 := hR.below hB1'
  clear hf hB1 hwd c0 c39
  go_wp2_with fail
  refine Calls.mono (dec_st w1 hR1 x hx i hi) ?_
  rintro e w2 ⟨rfl, hB2⟩
  go_upto_region 5 with fail
  obtain ⟨w3, hw3⟩ : ∃ W : World, W = w2.alloc (.cells #[.int .i64 (i.op : Int), .int .i64 (i.rd : Int), .int .i64 (i.rs1 : Int), .int .i64 (i.rs2 : Int), .int .i64 i.imm] 32) := ⟨_, rfl⟩
  have hi0 : w3.heap[w2.heap.size]? = some (.cells #[.int .i64 (i.op : Int), .int .i64 (i.rd : Int), .int .i64 (i.rs1 : Int), .int .i64 (i.rs2 : Int), .int .i64 i.imm] 32 (0, 0)) := by rw [hw3]; exact heap_alloc_new w2 _
  have hB3 : Below w2.heap.size w2 w3 := by rw [hw3]; exact (Below.refl _ _).alloc (Nat.le_refl _) _
  rw [← hw3]
  clear hw3
  have hB : Below w.heap.size w w3 := hB1'.trans ((hB2.mono hB1'.size).trans (hB3.mono (Nat.le_trans hB1'.size hB2.size)))
  have hM3 := hM.below hB
  clear hM1 hR1 hB1' hB2 hB3 hR a0 a39 hi hx
  have i0 := (obj_cell hi0 0).trans rfl
  have i1 := (obj_cell hi0 1).trans rfl
  have i2 := (obj_cell hi0 2).trans rfl
  have i3 := (obj_cell hi0 3).trans rfl
  have i4 := (obj_cell hi0 4).trans rfl
  have a0 := hM3.cpc
  have r1 := hM3.creg i.rs1 b4
  have r2 := hM3.creg i.rs2 b5
  have n1 : (i.rs1 : Int) < 32 := by omega
  have n2 : (i.rs2 : Int) < 32 := by omega
  have n3 : (i.rd : Int) < 32 := by omega
  go_wp2_with fail
  go_quiet (fail)
  rw [show IntKind.u64.wrap i.imm = ((wrN i.imm : Nat) : Int) from (wrN_is _).symm, show IntKind.u64.wrap ((s.c.pc : Int) + 4) = ((nextPc s : Nat) : Int) from nextPc_is s]
  have rd := hM3.creg i.rd b3
  have fd := hM3.fz (1 + i.rd)
  have f0 := hM3.fz 0
  have e1 : ((i.op : Int) == 1) = false := eqF (b := 1) (by omega)
  have e2 : ((i.op : Int) == 2) = false := eqF (b := 2) (by omega)
  have e3 : ((i.op : Int) == 3) = false := eqF (b := 3) (by omega)
  have e4 : ((i.op : Int) == 4) = false := eqF (b := 4) (by omega)
  have e10 : decide ((i.op : Int) ≤ 10) = false := decide_eq_false (by omega)
  have e17 : decide ((i.op : Int) ≤ 17) = false := decide_eq_false (by omega)
  have e21 : decide ((i.op : Int) ≤ 21) = false := decide_eq_false (by omega)
  have e34 : decide ((i.op : Int) ≤ 34) = false := decide_eq_false (by omega)
  have e62 : decide ((i.op : Int) ≤ 62) = false := decide_eq_false (by omega)
  have e65 : ((i.op : Int) == 65) = false := eqF (b := 65) (by omega)
  have e64 : ((i.op : Int) == 64) = false := eqF (b := 64) (by omega)
  have HE := Lib.hid (show execM i s = (0, { s with c := { s.c with pc := nextPc s } }) by unfold execM; rw [if_neg (by omega), if_neg (by omega), if_neg (by omega), if_neg (by omega), if_neg (by omega), if_neg (by omega), if_neg (by omega), if_neg (by omega), if_neg (by omega), if_neg (by omega), if_neg (by omega)])
  all_goals
    go_wp2
    go_ret
    refine ⟨by rw [HE.out]; rfl, ov, ?_, ?_⟩
    · rw [HE.out]
      exact (hM3.below (bdrewN (Below.refl _ _) _)).putPc (nextPc s) (nextPc_lt s)
    · exact ⟨(KeptBut.of_below (bdrewN hB _)).setCell _ (.inl rfl) _, fun g h => .inl h⟩
end Go.Proofs

/- (*cpu.Machine).step: the case Ebr. -/
namespace Go.Proofs
open Go Go.RowKit Go.Pat
set_option maxRecDepth 20000 in
set_option maxHeartbeats 8000000 in
theorem step_Ebr (w : World) (m p mb : Nat) (ov iv : Value) (s : Ms) (hM : MachAt w m p mb ov iv s) (hR : RvRows w) (x : Nat) (hf : fetchM s.fs s.c.pc = (x, 0)) (i : Ins) (hi : decR x = some i) (h1 : 65 ≤ i.op) (h2 : i.op ≤ 65) :
    Calls Tryd.prog 63 #[.pointer (some ⟨m, 0, none⟩)] w (StepTo m p mb ov iv s (execM i s) w) := by
  have hx : x < 4294967296 := by have := fetchM_lt s.fs s.c.pc; rw [hf] at this; exact this
  obtain ⟨b1, b2, b3, b4, b5⟩ := decR_some hi
  have a0 := hM.cpc
  have a39 := hM.cmem
  go_enter Tryd.func63, Tryd.ntmps63
  go_upto_region 1 with fail
  have hwd : Below w.heap.size w w.drew := (Below.refl _ _).drew
  go_region_held3 (fun w' => w'.cell? ⟨m, 0, none⟩ = some (.int .u64 (s.c.pc : Int)) ∧ w'.cell? ⟨m, 39, none⟩ = some (.pointer (some ⟨p, 0, none⟩)))
    (first | exact ⟨a0, a39⟩ | exact ⟨c0, c39⟩)
    (first | (go_at_call 94
              refine Calls.mono (Fetch_st w.drew p mb s.fs (hM.below hwd).mem s.c.pc hM.pc x 0 hf) ?_
              rintro e w1 ⟨rfl, hB1⟩
              have hB1' : Below w.heap.size w w1 := hwd.trans hB1
              have c0 := (hM.below hB1').cpc
              have c39 := (hM.below hB1').cmem))
  have hM1 := hM.below hB1'
  have hR1 := hR.below hB1'
  clear hf hB1 hwd c0 c39
  go_wp2_with fail
  refine Calls.mono (dec_st w1 hR1 x hx i hi) ?_
  rintro e w2 ⟨rfl, hB2⟩
  go_upto_region 5 with fail
  obtain ⟨w3, hw3⟩ : ∃ W : World, W = w2.alloc (.cells #[.int .i64 (i.op : Int), .int .i64 (i.rd : Int), .int .i64 (i.rs1 : Int), .int .i64 (i.rs2 : Int), .int .i64 i.imm] 32) := ⟨_, rfl⟩
  have hi0 : w3.heap[w2.heap.size]? = some (.cells #[.int .i64 (i.op : Int), .int .i64 (i.rd : Int), .int .i64 (i.rs1 : Int), .int .i64 (i.rs2 : Int), .int .i64 i.imm] 32 (0, 0)) := by rw [hw3]; exact heap_alloc_new w2 _
  have hB3 : Below w2.heap.size w2 w3 := by rw [hw3]; exact (Below.refl _ _).alloc (Nat.le_refl _) _
  rw [← hw3]
  clear hw3
  have hB : Below w.heap.size w w3 := hB1'.trans ((hB2.mono hB1'.size).trans (hB3.mono (Nat.le_trans hB1'.size hB2.size)))
  have hM3 := hM.below hB
  clear hM1 hR1 hB1' hB2 hB3 hR a0 a39 hi hx
  have i0 := (obj_cell hi0 0).trans rfl
  have i1 := (obj_cell hi0 1).trans rfl
  have i2 := (obj_cell hi0 2).trans rfl
  have i3 := (obj_cell hi0 3).trans rfl
  have i4 := (obj_cell hi0 4).trans rfl
  have a0 := hM3.cpc
  have r1 := hM3.creg i.rs1 b4
  have r2 := hM3.creg i.rs2 b5
  have n1 : (i.rs1 : Int) < 32 := by omega
  have n2 : (i.rs2 : Int) < 32 := by omega
  have n3 : (i.rd : Int) < 32 := by omega
  go_wp2_with fail
  go_quiet (fail)
  rw [show IntKind.u64.wrap i.imm = ((wrN i.imm : Nat) : Int) from (wrN_is _).symm, show IntKind.u64.wrap ((s.c.pc : Int) + 4) = ((nextPc s : Nat) : Int) from nextPc_is s]
  have rd := hM3.creg i.rd b3
  have fd := hM3.fz (1 + i.rd)
  have f0 := hM3.fz 0
  have e1 : ((i.op : Int) == 1) = false := eqF (b := 1) (by omega)
  have e2 : ((i.op : Int) == 2) = false := eqF (b := 2) (by omega)
  have e3 : ((i.op : Int) == 3) = false := eqF (b := 3) (by omega)
  have e4 : ((i.op : Int) == 4) = false := eqF (b := 4) (by omega)
  have e10 : decide ((i.op : Int) ≤ 10) = false := decide_eq_false (by omega)
  have e17 : decide ((i.op : Int) ≤ 17) = false := decide_eq_false (by omega)
  have e21 : decide ((i.op : Int) ≤ 21) = false := decide_eq_false (by omega)
  have e34 : decide ((i.op : Int) ≤ 34) = false := decide_eq_false (by omega)
  have e62 : decide ((i.op : Int) ≤ 62) = false := decide_eq_false (by omega)
  have e65 : ((i.op : Int) == 65) = true := eqT (b := 65) (by omega)
  have HE := Lib.hid (show execM i s = (34, s) by unfold execM; rw [if_neg (by omega), if_neg (by omega), if_neg (by omega), if_neg (by omega), if_neg (by omega), if_neg (by omega), if_neg (by omega), if_neg (by omega), if_neg (by omega), if_pos (by omega)])
  all_goals
    go_wp2
    go_ret
    refine ⟨by rw [HE.out]; rfl, ov, ?_, ?_⟩
    · rw [HE.out]
      exact (hM3.below (bdrewN (Below.refl _ _) _))
    · exact ⟨(KeptBut.of_below (bdrewN hB _)), fun g h => .inl h⟩
end Go.Proofs
