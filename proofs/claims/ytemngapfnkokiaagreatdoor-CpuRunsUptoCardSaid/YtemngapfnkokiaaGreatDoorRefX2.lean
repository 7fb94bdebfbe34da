/- (*patinaref03.Machine).Step: the case Br. (Printed by wip/tools/gen_refs.py.) -/
import Derived.Test.YtemngapfnkokiaaGreatDoorRefB
import Derived.Test.YtemngapfnkokiaaGreatDoorMachC
namespace Go.Proofs
open Go Go.RowKit Go.Pat
section
variable (w : World) (m : Nat) (PA : Option Addr) (pc : Nat) (ov iv : Value) (s : Ms)
set_option maxRecDepth 20000 in
set_option maxHeartbeats 8000000 in
theorem r3step_Br (hM : RefAt w m PA pc ov iv s) (ho : overB s.c = false) (h0 : s.c.reg 0 = 0) (x : Nat) (hf : fetchM s.fs s.c.pc = (x, 0)) (i : Ins) (hi : decR x = some i) (h1 : 5 ≤ i.op) (h2 : i.op ≤ 10) :
    Calls Tryz.prog 20 #[.pointer (some ⟨m, 0, none⟩)] w (RStepTo m PA pc ov iv s (stepM s) w) := by
  have hh : s.c.halted = false ∧ s.c.fault = 0 := by unfold overB at ho; simpa using ho
  have c34 := hM.chalted
  have c36 := hM.cfault
  rw [hh.1] at c34
  rw [hh.2] at c36
  have c0 := hM.cpc
  have hml := hM.lt
  have hpc := hM.pc
  obtain ⟨f4, f5, f6⟩ := fetch_ok hf
  have hx : x < 4294967296 := by have := fetchM_lt s.fs s.c.pc; rw [hf] at this; exact this
  have hx32 : IntKind.u32.wrap (x : Int) = (x : Int) := by rw [IntKind.wrap_u32]; omega
  have t4 : ((s.c.pc : Int) % 4 != 0) = false := by simp; omega
  have HMay := Lib.hid (r3may_is w m PA pc ov iv s s.c.pc 4 4 1 rfl true (decide_eq_true f5) hpc (by decide) (.inl rfl) hM)
  have HLd := Lib.hid (fun W (hW : RefAt W m PA pc ov iv s) => r3load_is W m PA pc ov iv s s.c.pc 4 x 4 1 rfl (by decide) f5 f6 hW)
  have HM := Lib.hid hM
  obtain ⟨b1, b2, b3, b4, b5⟩ := decR_some hi
  have HDc := Lib.hid (fun W => r1dec_st W x hx i hi)
  have HST := Lib.hid (show innerM s = execM i s from by unfold innerM; rw [hf, if_pos rfl, hi])
  have HI := Lib.hid hi
  have HO := Lib.hid ho
  have H0 := Lib.hid h0
  clear hM hh hf f4 f5 f6 hi ho h0
  go_enter Tryz.func20, Tryz.ntmps20
  go_upto_region 6 with (first
    | (go_at_call 31; with_reducible refine HMay.out.mono ?_; rintro e w1 ⟨rfl, hB1⟩; have hM1 := HM.out.below hB1; have a0 := hM1.cpc; have am := hM1.lt; have H1 := Lib.hid (And.intro hM1 hB1); clear hM1 hB1)
    | (go_at_call 34; with_reducible refine (HLd.out _ H1.out.1).mono ?_; rintro e w2 ⟨rfl, hB2⟩; have hB02 := H1.out.2.trans (hB2.mono H1.out.2.size); have H2 := Lib.hid hB02; clear hB2 hB02)
    | (go_at_call 33; with_reducible refine (HDc.out _).mono ?_; rintro e w3 ⟨rfl, hB3⟩; have H3 := Lib.hid (H2.out.trans (hB3.mono H2.out.size)); clear hB3))
  obtain ⟨w4, hw4⟩ : ∃ W : World, W = w3.alloc (.cells #[.int .i64 (i.op : Int), .int .i64 (i.rd : Int), .int .i64 (i.rs1 : Int), .int .i64 (i.rs2 : Int), .int .i64 i.imm] 78) := ⟨_, rfl⟩
  have hi0 : w4.heap[w3.heap.size]? = some (.cells #[.int .i64 (i.op : Int), .int .i64 (i.rd : Int), .int .i64 (i.rs1 : Int), .int .i64 (i.rs2 : Int), .int .i64 i.imm] 78 (0, 0)) := by rw [hw4]; exact heap_alloc_new w3 _
  have hB : Below w.heap.size w w4 := by rw [hw4]; exact H3.out.alloc H3.out.size _
  rw [← hw4]
  have hbx : w.heap.size ≤ w3.heap.size := H3.out.size
  clear hw4 c0 c34 c36 a0 am hml hx32 t4 HMay HLd HDc H1 H2 H3
  have hM4 := HM.out.below hB
  have i1 := (obj_cell hi0 1).trans rfl
  have i2 := (obj_cell hi0 2).trans rfl
  have i3 := (obj_cell hi0 3).trans rfl
  have i4 := (obj_cell hi0 4).trans rfl
  have a0 := hM4.cpc
  have r1 := hM4.creg i.rs1 b4
  have r2 := hM4.creg i.rs2 b5
  have rd := hM4.creg i.rd b3
  have i0 := (obj_cell hi0 0).trans rfl
  have n1 : (i.rs1 : Int) < 32 := by omega
  have n2 : (i.rs2 : Int) < 32 := by omega
  have n3 : (i.rd : Int) < 32 := by omega
  have hml := hM4.lt
  go_wp2_with fail
  go_quiet (fail)
  obtain ⟨qa, hqa⟩ : ∃ n, n = nq := ⟨_, rfl⟩
  rw [← hqa]
  clear hqa
  go_wp2_with fail
  go_quiet (fail)
  obtain ⟨qb, hqb⟩ : ∃ n, n = nq := ⟨_, rfl⟩
  rw [← hqb]
  clear hqb
  go_wp2_with fail
  go_quiet (fail)
  obtain ⟨qc, hqc⟩ : ∃ n, n = nq := ⟨_, rfl⟩
  rw [← hqc]
  clear hqc
  rw [show IntKind.u64.wrap i.imm = ((wrN i.imm : Nat) : Int) from (wrN_is _).symm, show IntKind.u64.wrap ((s.c.pc : Int) + 4) = ((nextPc s : Nat) : Int) from nextPc_is s]
  obtain ⟨w5, hw5⟩ : ∃ W, W = (w4.drewN (qa + qb)).drewN qc := ⟨_, rfl⟩
  rw [← hw5]
  have hi5 : w5.heap[w3.heap.size]? = some (.cells #[.int .i64 (i.op : Int), .int .i64 (i.rd : Int), .int .i64 (i.rs1 : Int), .int .i64 (i.rs2 : Int), .int .i64 i.imm] 78 (0, 0)) := by rw [hw5]; exact ((bdrewN (bdrewN (Below.refl w4.heap.size w4) _) _).block _ (lt_of_block hi0)).trans hi0
  have hB5 : Below w.heap.size w w5 := by rw [hw5]; exact bdrewN (bdrewN hB _) _
  clear hw5 qa qb qc i0 i1 i2 i3 i4 a0 r1 r2 rd hml hM4 hB hi0
  have hM5 := HM.out.below hB5
  have i0 := (obj_cell hi5 0).trans rfl
  have i1 := (obj_cell hi5 1).trans rfl
  have a0 := hM5.cpc
  have hml := hM5.lt
  have e1 : ((i.op : Int) == 1) = false := eqF (b := 1) (by omega)
  have e2 : ((i.op : Int) == 2) = false := eqF (b := 2) (by omega)
  have e3 : ((i.op : Int) == 3) = false := eqF (b := 3) (by omega)
  have e4 : ((i.op : Int) == 4) = false := eqF (b := 4) (by omega)
  have e10 : decide ((i.op : Int) ≤ 10) = true := decide_eq_true (by omega)
  go_wp2_with fail
  refine Calls.mono (rTaken3_any _ _ _ _) ?_
  rintro e w' ⟨rfl, rfl⟩
  cases hb : (takenV (i.op : Int) (s.c.reg i.rs1) (s.c.reg i.rs2)).1 with
  | true =>
    have hE := stepM_same HO.out H0.out HST.out (p := ((s.c.pc + wrN i.imm) % 18446744073709551616)) (fs' := s.fs) (by unfold execM; rw [if_neg (by omega), if_neg (by omega), if_neg (by omega), if_neg (by omega), if_pos (by omega), hb]; rfl)
    clear h1 h2 hb
    go_upto_region 45 with fail
    rw [add_is]
    obtain ⟨R, hR⟩ : ∃ n, n = (s.c.reg i.rd) := ⟨_, rfl⟩
    obtain ⟨P, hP⟩ : ∃ n, n = ((s.c.pc + wrN i.imm) % 18446744073709551616) := ⟨_, rfl⟩
    have hRl : R < 18446744073709551616 := by rw [hR]; exact (hM5.small i.rd)
    have hPl : P < 18446744073709551616 := by rw [hP]; exact (mod64_lt _)
    rw [← hR, ← hP] at hE ⊢
    have HE := Lib.hid hE
    clear hE hR hP
    by_cases hr : i.rd = 0
    · have t0 : ((i.rd : Int) != 0) = false := by simp; omega
      have HR := Lib.hid hr
      clear hr
      have hd2 := hM5.putPc P hPl
      have p33 := hd2.csteps
      have g0 := hM5.fz 0
      have g33 := hd2.fz 33
      have h2 := Lib.hid hd2
      clear hd2
      go_wp2_with fail
      go_ret
      refine ⟨by rw [HE.out]; rfl, ov, ?_, ((KeptBut.of_below hB5).setCell _ (.inl rfl) _).setCell _ (.inl rfl) _, fun g h => .inl h⟩
      rw [HE.out, finR_0 HR.out]
      exact h2.out.putSteps _
    · have t0 : ((i.rd : Int) != 0) = true := by simp; omega
      have HR := Lib.hid hr
      clear hr
      have g1 := hM5.fz (1 + i.rd)
      have q1 := hM5.creg i.rd b3
      go_upto_region 46 with fail
      go_region
      obtain ⟨w9, hw9⟩ : ∃ W, W = (w'.setCell ⟨m, 1 + i.rd, none⟩ (.int .u64 (R : Int))).drew := ⟨_, rfl⟩
      rw [← hw9]
      have hd1 := (hM5.putReg i.rd R b3 hRl).below (Below.refl _ _).drew
      rw [← hw9] at hd1
      have hk9 : KeptBut (mine m s.fs ov) w w9 := by rw [hw9]; exact ((KeptBut.of_below hB5).setCell _ (.inl rfl) _).trans (.of_below (Below.refl _ _).drew)
      clear hw9
      have hd2 := hd1.putPc P hPl
      have g0 := hd1.fz 0
      have p0 := hd1.cpc
      have l6 := hd1.lt
      have p33 := hd2.csteps
      have g33 := hd2.fz 33
      have h2 := Lib.hid hd2
      clear hd2 hd1
      go_wp2
      go_ret
      refine ⟨by rw [HE.out]; rfl, ov, ?_, (hk9.setCell _ (.inl rfl) _).setCell _ (.inl rfl) _, fun g h => .inl h⟩
      rw [HE.out, finR_n HR.out]
      exact h2.out.putSteps _
  | false =>
    have hE := stepM_same HO.out H0.out HST.out (p := (nextPc s)) (fs' := s.fs) (by unfold execM; rw [if_neg (by omega), if_neg (by omega), if_neg (by omega), if_neg (by omega), if_pos (by omega), hb]; rfl)
    clear h1 h2 hb
    go_upto_region 45 with fail
    obtain ⟨R, hR⟩ : ∃ n, n = (s.c.reg i.rd) := ⟨_, rfl⟩
    obtain ⟨P, hP⟩ : ∃ n, n = (nextPc s) := ⟨_, rfl⟩
    have hRl : R < 18446744073709551616 := by rw [hR]; exact (hM5.small i.rd)
    have hPl : P < 18446744073709551616 := by rw [hP]; exact (nextPc_lt s)
    rw [← hR, ← hP] at hE ⊢
    have HE := Lib.hid hE
    clear hE hR hP
    by_cases hr : i.rd = 0
    · have t0 : ((i.rd : Int) != 0) = false := by simp; omega
      have HR := Lib.hid hr
      clear hr
      have hd2 := hM5.putPc P hPl
      have p33 := hd2.csteps
      have g0 := hM5.fz 0
      have g33 := hd2.fz 33
      have h2 := Lib.hid hd2
      clear hd2
      go_wp2_with fail
      go_ret
      refine ⟨by rw [HE.out]; rfl, ov, ?_, ((KeptBut.of_below hB5).setCell _ (.inl rfl) _).setCell _ (.inl rfl) _, fun g h => .inl h⟩
      rw [HE.out, finR_0 HR.out]
      exact h2.out.putSteps _
    · have t0 : ((i.rd : Int) != 0) = true := by simp; omega
      have HR := Lib.hid hr
      clear hr
      have g1 := hM5.fz (1 + i.rd)
      have q1 := hM5.creg i.rd b3
      go_upto_region 46 with fail
      go_region
      obtain ⟨w9, hw9⟩ : ∃ W, W = (w'.setCell ⟨m, 1 + i.rd, none⟩ (.int .u64 (R : Int))).drew := ⟨_, rfl⟩
      rw [← hw9]
      have hd1 := (hM5.putReg i.rd R b3 hRl).below (Below.refl _ _).drew
      rw [← hw9] at hd1
      have hk9 : KeptBut (mine m s.fs ov) w w9 := by rw [hw9]; exact ((KeptBut.of_below hB5).setCell _ (.inl rfl) _).trans (.of_below (Below.refl _ _).drew)
      clear hw9
      have hd2 := hd1.putPc P hPl
      have g0 := hd1.fz 0
      have p0 := hd1.cpc
      have l6 := hd1.lt
      have p33 := hd2.csteps
      have g33 := hd2.fz 33
      have h2 := Lib.hid hd2
      clear hd2 hd1
      go_wp2
      go_ret
      refine ⟨by rw [HE.out]; rfl, ov, ?_, (hk9.setCell _ (.inl rfl) _).setCell _ (.inl rfl) _, fun g h => .inl h⟩
      rw [HE.out, finR_n HR.out]
      exact h2.out.putSteps _
end
end Go.Proofs

/- (*patinaref03.Machine).Step: the case Ld. (Printed by wip/tools/gen_refs.py.) -/
namespace Go.Proofs
open Go Go.RowKit Go.Pat
section
variable (w : World) (m : Nat) (PA : Option Addr) (pc : Nat) (ov iv : Value) (s : Ms)
set_option maxRecDepth 20000 in
set_option maxHeartbeats 8000000 in
theorem r3step_Ld (hM : RefAt w m PA pc ov iv s) (ho : overB s.c = false) (h0 : s.c.reg 0 = 0) (x : Nat) (hf : fetchM s.fs s.c.pc = (x, 0)) (i : Ins) (hi : decR x = some i) (h1 : 11 ≤ i.op) (h2 : i.op ≤ 17) :
    Calls Tryz.prog 20 #[.pointer (some ⟨m, 0, none⟩)] w (RStepTo m PA pc ov iv s (stepM s) w) := by
  have hh : s.c.halted = false ∧ s.c.fault = 0 := by unfold overB at ho; simpa using ho
  have c34 := hM.chalted
  have c36 := hM.cfault
  rw [hh.1] at c34
  rw [hh.2] at c36
  have c0 := hM.cpc
  have hml := hM.lt
  have hpc := hM.pc
  obtain ⟨f4, f5, f6⟩ := fetch_ok hf
  have hx : x < 4294967296 := by have := fetchM_lt s.fs s.c.pc; rw [hf] at this; exact this
  have hx32 : IntKind.u32.wrap (x : Int) = (x : Int) := by rw [IntKind.wrap_u32]; omega
  have t4 : ((s.c.pc : Int) % 4 != 0) = false := by simp; omega
  have HMay := Lib.hid (r3may_is w m PA pc ov iv s s.c.pc 4 4 1 rfl true (decide_eq_true f5) hpc (by decide) (.inl rfl) hM)
  have HLd := Lib.hid (fun W (hW : RefAt W m PA pc ov iv s) => r3load_is W m PA pc ov iv s s.c.pc 4 x 4 1 rfl (by decide) f5 f6 hW)
  have HM := Lib.hid hM
  obtain ⟨b1, b2, b3, b4, b5⟩ := decR_some hi
  have HDc := Lib.hid (fun W => r1dec_st W x hx i hi)
  have HST := Lib.hid (show innerM s = execM i s from by unfold innerM; rw [hf, if_pos rfl, hi])
  have HI := Lib.hid hi
  have HO := Lib.hid ho
  have H0 := Lib.hid h0
  clear hM hh hf f4 f5 f6 hi ho h0
  go_enter Tryz.func20, Tryz.ntmps20
  go_upto_region 6 with (first
    | (go_at_call 31; with_reducible refine HMay.out.mono ?_; rintro e w1 ⟨rfl, hB1⟩; have hM1 := HM.out.below hB1; have a0 := hM1.cpc; have am := hM1.lt; have H1 := Lib.hid (And.intro hM1 hB1); clear hM1 hB1)
    | (go_at_call 34; with_reducible refine (HLd.out _ H1.out.1).mono ?_; rintro e w2 ⟨rfl, hB2⟩; have hB02 := H1.out.2.trans (hB2.mono H1.out.2.size); have H2 := Lib.hid hB02; clear hB2 hB02)
    | (go_at_call 33; with_reducible refine (HDc.out _).mono ?_; rintro e w3 ⟨rfl, hB3⟩; have H3 := Lib.hid (H2.out.trans (hB3.mono H2.out.size)); clear hB3))
  obtain ⟨w4, hw4⟩ : ∃ W : World, W = w3.alloc (.cells #[.int .i64 (i.op : Int), .int .i64 (i.rd : Int), .int .i64 (i.rs1 : Int), .int .i64 (i.rs2 : Int), .int .i64 i.imm] 78) := ⟨_, rfl⟩
  have hi0 : w4.heap[w3.heap.size]? = some (.cells #[.int .i64 (i.op : Int), .int .i64 (i.rd : Int), .int .i64 (i.rs1 : Int), .int .i64 (i.rs2 : Int), .int .i64 i.imm] 78 (0, 0)) := by rw [hw4]; exact heap_alloc_new w3 _
  have hB : Below w.heap.size w w4 := by rw [hw4]; exact H3.out.alloc H3.out.size _
  rw [← hw4]
  have hbx : w.heap.size ≤ w3.heap.size := H3.out.size
  clear hw4 c0 c34 c36 a0 am hml hx32 t4 HMay HLd HDc H1 H2 H3
  have hM4 := HM.out.below hB
  have i1 := (obj_cell hi0 1).trans rfl
  have i2 := (obj_cell hi0 2).trans rfl
  have i3 := (obj_cell hi0 3).trans rfl
  have i4 := (obj_cell hi0 4).trans rfl
  have a0 := hM4.cpc
  have r1 := hM4.creg i.rs1 b4
  have r2 := hM4.creg i.rs2 b5
  have rd := hM4.creg i.rd b3
  have i0 := (obj_cell hi0 0).trans rfl
  have n1 : (i.rs1 : Int) < 32 := by omega
  have n2 : (i.rs2 : Int) < 32 := by omega
  have n3 : (i.rd : Int) < 32 := by omega
  have hml := hM4.lt
  go_wp2_with fail
  go_quiet (fail)
  obtain ⟨qa, hqa⟩ : ∃ n, n = nq := ⟨_, rfl⟩
  rw [← hqa]
  clear hqa
  go_wp2_with fail
  go_quiet (fail)
  obtain ⟨qb, hqb⟩ : ∃ n, n = nq := ⟨_, rfl⟩
  rw [← hqb]
  clear hqb
  go_wp2_with fail
  go_quiet (fail)
  obtain ⟨qc, hqc⟩ : ∃ n, n = nq := ⟨_, rfl⟩
  rw [← hqc]
  clear hqc
  rw [show IntKind.u64.wrap i.imm = ((wrN i.imm : Nat) : Int) from (wrN_is _).symm, show IntKind.u64.wrap ((s.c.pc : Int) + 4) = ((nextPc s : Nat) : Int) from nextPc_is s]
  obtain ⟨w5, hw5⟩ : ∃ W, W = (w4.drewN (qa + qb)).drewN qc := ⟨_, rfl⟩
  rw [← hw5]
  have hi5 : w5.heap[w3.heap.size]? = some (.cells #[.int .i64 (i.op : Int), .int .i64 (i.rd : Int), .int .i64 (i.rs1 : Int), .int .i64 (i.rs2 : Int), .int .i64 i.imm] 78 (0, 0)) := by rw [hw5]; exact ((bdrewN (bdrewN (Below.refl w4.heap.size w4) _) _).block _ (lt_of_block hi0)).trans hi0
  have hB5 : Below w.heap.size w w5 := by rw [hw5]; exact bdrewN (bdrewN hB _) _
  clear hw5 qa qb qc i0 i1 i2 i3 i4 a0 r1 r2 rd hml hM4 hB hi0
  have hM5 := HM.out.below hB5
  have i0 := (obj_cell hi5 0).trans rfl
  have i1 := (obj_cell hi5 1).trans rfl
  have a0 := hM5.cpc
  have hml := hM5.lt
  have e1 : ((i.op : Int) == 1) = false := eqF (b := 1) (by omega)
  have e2 : ((i.op : Int) == 2) = false := eqF (b := 2) (by omega)
  have e3 : ((i.op : Int) == 3) = false := eqF (b := 3) (by omega)
  have e4 : ((i.op : Int) == 4) = false := eqF (b := 4) (by omega)
  have e10 : decide ((i.op : Int) ≤ 10) = false := decide_eq_false (by omega)
  have e17 : decide ((i.op : Int) ≤ 17) = true := decide_eq_true (by omega)
  obtain ⟨at_, hat⟩ : ∃ n, n = (s.c.reg i.rs1 + wrN i.imm) % 18446744073709551616 := ⟨_, rfl⟩
  have hal : at_ < 18446744073709551616 := by rw [hat]; exact mod64_lt _
  have hE0 : execM i s = (if (loadM s.fs at_ (ldN i.op)).2 = 0 then (0, { s with c := s.c.put i.rd (ldV i.op (loadM s.fs at_ (ldN i.op)).1) (nextPc s) }) else (32, s)) := by unfold execM; rw [if_neg (by omega), if_neg (by omega), if_neg (by omega), if_neg (by omega), if_neg (by omega), if_pos (by omega), ← hat]
  have hadd := add_is (s.c.reg i.rs1) (wrN i.imm)
  rw [← hat] at hadd
  clear hat
  obtain ⟨n, hn⟩ : ∃ n, n = widN i.op := ⟨_, rfl⟩
  have hn8 : n ≤ 8 := by rw [hn]; exact widN_le _ (by omega)
  by_cases hz : askedM s.fs at_ n 4 = 0
  · rw [loadM_op s.fs at_ i.op (by omega), ← hn, if_pos hz, if_pos rfl] at hE0
    have hE := stepM_put HO.out H0.out HST.out hE0
    have HMy := Lib.hid (fun W (hW : RefAt W m PA pc ov iv s) => r3may_is W m PA pc ov iv s at_ n (n : Int) 4 rfl true (decide_eq_true hz) hal hn8 (.inr (.inr rfl)) hW)
    have HWd := Lib.hid (show ∀ W : World, Calls Tryz.prog 36 #[.int .i64 (i.op : Int)] W fun e w' => e = .returned (.int .i64 (n : Int)) ∧ w' = W from fun W => by rw [hn]; exact r3width_any i.op (by omega) W)
    obtain ⟨z1, z2, z3⟩ := asked_zero hz
    have hnl : n = ldN i.op := by rw [hn]; exact widN_ld _ (by omega)
    obtain ⟨R, hR⟩ : ∃ R, R = ldV i.op (numM s.fs at_ n) := ⟨_, rfl⟩
    have hRl : R < 18446744073709551616 := by rw [hR]; exact wrN_lt _
    have HLo := Lib.hid (show ∀ W : World, RefAt W m PA pc ov iv s → Calls Tryz.prog 37 #[.pointer (some ⟨m, 0, none⟩), .int .i64 (i.op : Int), .int .u64 (at_ : Int)] W fun e w' => e = .returned (.int .u64 (R : Int)) ∧ Below W.heap.size W w' from fun W hW => by
      rw [hR, hnl]; exact r3loaded_any W m PA pc ov iv s hW i.op at_ (by omega) (by rw [← hnl]; exact z1) (fun k hk => (z3 k (by rw [hnl]; exact hk)).imp fun _ h => h.1))
    obtain ⟨P, hP⟩ : ∃ n, n = nextPc s := ⟨_, rfl⟩
    have hPl : P < 18446744073709551616 := by rw [hP]; exact nextPc_lt s
    rw [← hR, ← hP] at hE
    rw [← hP]
    have HE := Lib.hid hE
    clear hE0 hE hR hP z1 z2 z3 hnl hn hz h1 h2
    go_wp2_with fail
    refine Calls.mono (HWd.out _) ?_
    rintro e w' ⟨rfl, rfl⟩
    go_wp2_with fail
    refine Calls.mono (HMy.out _ hM5) ?_
    rintro e w6 ⟨rfl, hB6⟩
    have hM6 := hM5.below hB6
    have hi6 := (hB6.block _ (lt_of_block hi5)).trans hi5
    have i16 := (obj_cell hi6 1).trans rfl
    have a06 := hM6.cpc
    have l06 := hM6.lt
    have i06 := (obj_cell hi6 0).trans rfl
    go_wp2_with fail
    refine Calls.mono (HLo.out _ hM6) ?_
    rintro e w7 ⟨rfl, hB7⟩
    have hM7 := hM6.below hB7
    have hi7 := (hB7.block _ (lt_of_block hi6)).trans hi6
    have i17 := (obj_cell hi7 1).trans rfl
    have a07 := hM7.cpc
    have l07 := hM7.lt
    by_cases hr : i.rd = 0
    · have t0 : ((i.rd : Int) != 0) = false := by simp; omega
      have HR := Lib.hid hr
      clear hr
      have hd2 := hM7.putPc P hPl
      have p33 := hd2.csteps
      have g0 := hM7.fz 0
      have g33 := hd2.fz 33
      have h2 := Lib.hid hd2
      clear hd2
      go_wp2_with fail
      go_ret
      refine ⟨by rw [HE.out]; rfl, ov, ?_, ((KeptBut.of_below ((hB5.trans (hB6.mono hB5.size)).trans (hB7.mono (Nat.le_trans hB5.size hB6.size)))).setCell _ (.inl rfl) _).setCell _ (.inl rfl) _, fun g h => .inl h⟩
      rw [HE.out, finR_0 HR.out]
      exact h2.out.putSteps _
    · have t0 : ((i.rd : Int) != 0) = true := by simp; omega
      have HR := Lib.hid hr
      clear hr
      have g1 := hM7.fz (1 + i.rd)
      have q1 := hM7.creg i.rd b3
      go_upto_region 46 with fail
      go_region
      obtain ⟨w9, hw9⟩ : ∃ W, W = (w7.setCell ⟨m, 1 + i.rd, none⟩ (.int .u64 (R : Int))).drew := ⟨_, rfl⟩
      rw [← hw9]
      have hd1 := (hM7.putReg i.rd R b3 hRl).below (Below.refl _ _).drew
      rw [← hw9] at hd1
      have hk9 : KeptBut (mine m s.fs ov) w w9 := by rw [hw9]; exact ((KeptBut.of_below ((hB5.trans (hB6.mono hB5.size)).trans (hB7.mono (Nat.le_trans hB5.size hB6.size)))).setCell _ (.inl rfl) _).trans (.of_below (Below.refl _ _).drew)
      clear hw9
      have hd2 := hd1.putPc P hPl
      have g0 := hd1.fz 0
      have p0 := hd1.cpc
      have l6 := hd1.lt
      have p33 := hd2.csteps
      have g33 := hd2.fz 33
      have h2 := Lib.hid hd2
      clear hd2 hd1
      go_wp2
      go_ret
      refine ⟨by rw [HE.out]; rfl, ov, ?_, (hk9.setCell _ (.inl rfl) _).setCell _ (.inl rfl) _, fun g h => .inl h⟩
      rw [HE.out, finR_n HR.out]
      exact h2.out.putSteps _
  · rw [loadM_op s.fs at_ i.op (by omega), ← hn, if_neg hz, if_neg hz] at hE0
    have HE := Lib.hid (stepM_bad HO.out HST.out (z := 32) (by decide) hE0)
    have HMy := Lib.hid (fun W (hW : RefAt W m PA pc ov iv s) => r3may_is W m PA pc ov iv s at_ n (n : Int) 4 rfl false (decide_eq_false hz) hal hn8 (.inr (.inr rfl)) hW)
    have HWd := Lib.hid (show ∀ W : World, Calls Tryz.prog 36 #[.int .i64 (i.op : Int)] W fun e w' => e = .returned (.int .i64 (n : Int)) ∧ w' = W from fun W => by rw [hn]; exact r3width_any i.op (by omega) W)
    clear hE0 hn hz h1 h2
    go_wp2_with fail
    refine Calls.mono (HWd.out _) ?_
    rintro e w' ⟨rfl, rfl⟩
    go_wp2_with fail
    refine Calls.mono (HMy.out _ hM5) ?_
    rintro e w6 ⟨rfl, hB6⟩
    have hM6 := hM5.below hB6
    have hi6 := (hB6.block _ (lt_of_block hi5)).trans hi5
    have i16 := (obj_cell hi6 1).trans rfl
    have a06 := hM6.cpc
    have l06 := hM6.lt
    have i06 := (obj_cell hi6 0).trans rfl
    go_wp2_with fail
    refine Calls.mono (r3fault_any _ m PA pc ov iv s hM6 32) ?_
    rintro e w8 ⟨rfl, rfl⟩
    go_wp2
    go_ret
    exact ⟨by rw [HE.out]; rfl, ov, by rw [HE.out]; exact hM6.putFault 32, (KeptBut.of_below (hB5.trans (hB6.mono hB5.size))).setCell _ (.inl rfl) _, fun g h => .inl h⟩
end
end Go.Proofs

/- (*patinaref03.Machine).Step: the case St. (Printed by wip/tools/gen_refs.py.) -/
namespace Go.Proofs
open Go Go.RowKit Go.Pat
section
variable (w : World) (m : Nat) (PA : Option Addr) (pc : Nat) (ov iv : Value) (s : Ms)
set_option maxRecDepth 20000 in
set_option maxHeartbeats 8000000 in
theorem r3step_St (hM : RefAt w m PA pc ov iv s) (ho : overB s.c = false) (h0 : s.c.reg 0 = 0) (x : Nat) (hf : fetchM s.fs s.c.pc = (x, 0)) (i : Ins) (hi : decR x = some i) (h1 : 18 ≤ i.op) (h2 : i.op ≤ 21) :
    Calls Tryz.prog 20 #[.pointer (some ⟨m, 0, none⟩)] w (RStepTo m PA pc ov iv s (stepM s) w) := by
  have hh : s.c.halted = false ∧ s.c.fault = 0 := by unfold overB at ho; simpa using ho
  have c34 := hM.chalted
  have c36 := hM.cfault
  rw [hh.1] at c34
  rw [hh.2] at c36
  have c0 := hM.cpc
  have hml := hM.lt
  have hpc := hM.pc
  obtain ⟨f4, f5, f6⟩ := fetch_ok hf
  have hx : x < 4294967296 := by have := fetchM_lt s.fs s.c.pc; rw [hf] at this; exact this
  have hx32 : IntKind.u32.wrap (x : Int) = (x : Int) := by rw [IntKind.wrap_u32]; omega
  have t4 : ((s.c.pc : Int) % 4 != 0) = false := by simp; omega
  have HMay := Lib.hid (r3may_is w m PA pc ov iv s s.c.pc 4 4 1 rfl true (decide_eq_true f5) hpc (by decide) (.inl rfl) hM)
  have HLd := Lib.hid (fun W (hW : RefAt W m PA pc ov iv s) => r3load_is W m PA pc ov iv s s.c.pc 4 x 4 1 rfl (by decide) f5 f6 hW)
  have HM := Lib.hid hM
  obtain ⟨b1, b2, b3, b4, b5⟩ := decR_some hi
  have HDc := Lib.hid (fun W => r1dec_st W x hx i hi)
  have HST := Lib.hid (show innerM s = execM i s from by unfold innerM; rw [hf, if_pos rfl, hi])
  have HI := Lib.hid hi
  have HO := Lib.hid ho
  have H0 := Lib.hid h0
  clear hM hh hf f4 f5 f6 hi ho h0
  go_enter Tryz.func20, Tryz.ntmps20
  go_upto_region 6 with (first
    | (go_at_call 31; with_reducible refine HMay.out.mono ?_; rintro e w1 ⟨rfl, hB1⟩; have hM1 := HM.out.below hB1; have a0 := hM1.cpc; have am := hM1.lt; have H1 := Lib.hid (And.intro hM1 hB1); clear hM1 hB1)
    | (go_at_call 34; with_reducible refine (HLd.out _ H1.out.1).mono ?_; rintro e w2 ⟨rfl, hB2⟩; have hB02 := H1.out.2.trans (hB2.mono H1.out.2.size); have H2 := Lib.hid hB02; clear hB2 hB02)
    | (go_at_call 33; with_reducible refine (HDc.out _).mono ?_; rintro e w3 ⟨rfl, hB3⟩; have H3 := Lib.hid (H2.out.trans (hB3.mono H2.out.size)); clear hB3))
  obtain ⟨w4, hw4⟩ : ∃ W : World, W = w3.alloc (.cells #[.int .i64 (i.op : Int), .int .i64 (i.rd : Int), .int .i64 (i.rs1 : Int), .int .i64 (i.rs2 : Int), .int .i64 i.imm] 78) := ⟨_, rfl⟩
  have hi0 : w4.heap[w3.heap.size]? = some (.cells #[.int .i64 (i.op : Int), .int .i64 (i.rd : Int), .int .i64 (i.rs1 : Int), .int .i64 (i.rs2 : Int), .int .i64 i.imm] 78 (0, 0)) := by rw [hw4]; exact heap_alloc_new w3 _
  have hB : Below w.heap.size w w4 := by rw [hw4]; exact H3.out.alloc H3.out.size _
  rw [← hw4]
  have hbx : w.heap.size ≤ w3.heap.size := H3.out.size
  clear hw4 c0 c34 c36 a0 am hml hx32 t4 HMay HLd HDc H1 H2 H3
  have hM4 := HM.out.below hB
  have i1 := (obj_cell hi0 1).trans rfl
  have i2 := (obj_cell hi0 2).trans rfl
  have i3 := (obj_cell hi0 3).trans rfl
  have i4 := (obj_cell hi0 4).trans rfl
  have a0 := hM4.cpc
  have r1 := hM4.creg i.rs1 b4
  have r2 := hM4.creg i.rs2 b5
  have rd := hM4.creg i.rd b3
  have i0 := (obj_cell hi0 0).trans rfl
  have n1 : (i.rs1 : Int) < 32 := by omega
  have n2 : (i.rs2 : Int) < 32 := by omega
  have n3 : (i.rd : Int) < 32 := by omega
  have hml := hM4.lt
  go_wp2_with fail
  go_quiet (fail)
  obtain ⟨qa, hqa⟩ : ∃ n, n = nq := ⟨_, rfl⟩
  rw [← hqa]
  clear hqa
  go_wp2_with fail
  go_quiet (fail)
  obtain ⟨qb, hqb⟩ : ∃ n, n = nq := ⟨_, rfl⟩
  rw [← hqb]
  clear hqb
  go_wp2_with fail
  go_quiet (fail)
  obtain ⟨qc, hqc⟩ : ∃ n, n = nq := ⟨_, rfl⟩
  rw [← hqc]
  clear hqc
  rw [show IntKind.u64.wrap i.imm = ((wrN i.imm : Nat) : Int) from (wrN_is _).symm, show IntKind.u64.wrap ((s.c.pc : Int) + 4) = ((nextPc s : Nat) : Int) from nextPc_is s]
  obtain ⟨w5, hw5⟩ : ∃ W, W = (w4.drewN (qa + qb)).drewN qc := ⟨_, rfl⟩
  rw [← hw5]
  have hi5 : w5.heap[w3.heap.size]? = some (.cells #[.int .i64 (i.op : Int), .int .i64 (i.rd : Int), .int .i64 (i.rs1 : Int), .int .i64 (i.rs2 : Int), .int .i64 i.imm] 78 (0, 0)) := by rw [hw5]; exact ((bdrewN (bdrewN (Below.refl w4.heap.size w4) _) _).block _ (lt_of_block hi0)).trans hi0
  have hB5 : Below w.heap.size w w5 := by rw [hw5]; exact bdrewN (bdrewN hB _) _
  clear hw5 qa qb qc i0 i1 i2 i3 i4 a0 r1 r2 rd hml hM4 hB hi0
  have hM5 := HM.out.below hB5
  have i0 := (obj_cell hi5 0).trans rfl
  have i1 := (obj_cell hi5 1).trans rfl
  have a0 := hM5.cpc
  have hml := hM5.lt
  have e1 : ((i.op : Int) == 1) = false := eqF (b := 1) (by omega)
  have e2 : ((i.op : Int) == 2) = false := eqF (b := 2) (by omega)
  have e3 : ((i.op : Int) == 3) = false := eqF (b := 3) (by omega)
  have e4 : ((i.op : Int) == 4) = false := eqF (b := 4) (by omega)
  have e10 : decide ((i.op : Int) ≤ 10) = false := decide_eq_false (by omega)
  have e17 : decide ((i.op : Int) ≤ 17) = false := decide_eq_false (by omega)
  have e21 : decide ((i.op : Int) ≤ 21) = true := decide_eq_true (by omega)
  obtain ⟨at_, hat⟩ : ∃ n, n = (s.c.reg i.rs1 + wrN i.imm) % 18446744073709551616 := ⟨_, rfl⟩
  have hal : at_ < 18446744073709551616 := by rw [hat]; exact mod64_lt _
  have hE0 : execM i s = (if storeE s.fs at_ ((2 ^ (i.op - 18) : Nat) : Int) = 0 then (0, { s with c := { s.c with pc := nextPc s }, fs := storeM s.fs at_ (s.c.reg i.rs2) ((2 ^ (i.op - 18) : Nat) : Int) }) else (33, s)) := by unfold execM; rw [if_neg (by omega), if_neg (by omega), if_neg (by omega), if_neg (by omega), if_neg (by omega), if_neg (by omega), if_pos (by omega), ← hat]
  have hadd := add_is (s.c.reg i.rs1) (wrN i.imm)
  rw [← hat] at hadd
  clear hat
  obtain ⟨n, hn⟩ : ∃ n, n = widN i.op := ⟨_, rfl⟩
  have hn8 : n ≤ 8 := by rw [hn]; exact widN_le _ (by omega)
  by_cases hz : askedM s.fs at_ n 2 = 0
  · rw [storeE_op s.fs at_ i.op (by omega), ← hn, if_pos hz, storeM_op s.fs at_ _ i.op (by omega) (by rw [← hn]; exact hz), ← hn] at hE0
    have hE := stepM_same HO.out H0.out HST.out hE0
    have HMy := Lib.hid (fun W (hW : RefAt W m PA pc ov iv s) => r3may_is W m PA pc ov iv s at_ n (n : Int) 2 rfl true (decide_eq_true hz) hal hn8 (.inr (.inl rfl)) hW)
    have HWd := Lib.hid (show ∀ W : World, Calls Tryz.prog 36 #[.int .i64 (i.op : Int)] W fun e w' => e = .returned (.int .i64 (n : Int)) ∧ w' = W from fun W => by rw [hn]; exact r3width_any i.op (by omega) W)
    obtain ⟨z1, z2, z3⟩ := asked_zero hz
    have hvl := hM5.small i.rs2
    have HSo := Lib.hid (fun W (hW : RefAt W m PA pc ov iv s) => r3store_any W m PA pc ov iv s hW at_ n (s.c.reg i.rs2) z1 hn8 hvl (fun k hk => (z3 k hk).imp fun _ h => h.1))
    obtain ⟨R, hR⟩ : ∃ n, n = s.c.reg i.rd := ⟨_, rfl⟩
    have hRl : R < 18446744073709551616 := by rw [hR]; exact hM5.small i.rd
    obtain ⟨P, hP⟩ : ∃ n, n = nextPc s := ⟨_, rfl⟩
    have hPl : P < 18446744073709551616 := by rw [hP]; exact nextPc_lt s
    rw [← hR, ← hP] at hE ⊢
    have HE := Lib.hid hE
    clear hE0 hE hR hP z1 z2 z3 hn hz h1 h2
    go_wp2_with fail
    refine Calls.mono (HWd.out _) ?_
    rintro e w' ⟨rfl, rfl⟩
    go_wp2_with fail
    refine Calls.mono (HMy.out _ hM5) ?_
    rintro e w6 ⟨rfl, hB6⟩
    have hM6 := hM5.below hB6
    have hi6 := (hB6.block _ (lt_of_block hi5)).trans hi5
    have i16 := (obj_cell hi6 1).trans rfl
    have a06 := hM6.cpc
    have l06 := hM6.lt
    have i06 := (obj_cell hi6 0).trans rfl
    go_wp2_with fail
    refine Calls.mono (HWd.out _) ?_
    rintro e w' ⟨rfl, rfl⟩
    go_wp2_with fail
    refine Calls.mono (HSo.out _ hM6) ?_
    rintro e w7 ⟨rfl, hM7, hK7⟩
    have hi7 := (hK7.block _ (lt_of_block hi6) (fun hk => Nat.lt_irrefl _ (Nat.lt_of_lt_of_le (HM.out.mine_lt (.inr (.inl hk))) hbx))).trans hi6
    have i17 := (obj_cell hi7 1).trans rfl
    have a07 := hM7.cpc
    have l07 := hM7.lt
    by_cases hr : i.rd = 0
    · have t0 : ((i.rd : Int) != 0) = false := by simp; omega
      have HR := Lib.hid hr
      clear hr
      have hd2 := hM7.putPc P hPl
      have p33 := hd2.csteps
      have g0 := hM7.fz 0
      have g33 := hd2.fz 33
      have h2 := Lib.hid hd2
      clear hd2
      go_wp2_with fail
      go_ret
      refine ⟨by rw [HE.out]; rfl, ov, ?_, (((KeptBut.of_below (hB5.trans (hB6.mono hB5.size))).trans (hK7.mono fun k h => .inr (.inl h))).setCell _ (.inl rfl) _).setCell _ (.inl rfl) _, fun g h => .inl h⟩
      rw [HE.out, finR_0 HR.out]
      exact h2.out.putSteps _
    · have t0 : ((i.rd : Int) != 0) = true := by simp; omega
      have HR := Lib.hid hr
      clear hr
      have g1 := hM7.fz (1 + i.rd)
      have q1 := hM7.creg i.rd b3
      go_upto_region 46 with fail
      go_region
      obtain ⟨w9, hw9⟩ : ∃ W, W = (w7.setCell ⟨m, 1 + i.rd, none⟩ (.int .u64 (R : Int))).drew := ⟨_, rfl⟩
      rw [← hw9]
      have hd1 := (hM7.putReg i.rd R b3 hRl).below (Below.refl _ _).drew
      rw [← hw9] at hd1
      have hk9 : KeptBut (mine m s.fs ov) w w9 := by rw [hw9]; exact (((KeptBut.of_below (hB5.trans (hB6.mono hB5.size))).trans (hK7.mono fun k h => .inr (.inl h))).setCell _ (.inl rfl) _).trans (.of_below (Below.refl _ _).drew)
      clear hw9
      have hd2 := hd1.putPc P hPl
      have g0 := hd1.fz 0
      have p0 := hd1.cpc
      have l6 := hd1.lt
      have p33 := hd2.csteps
      have g33 := hd2.fz 33
      have h2 := Lib.hid hd2
      clear hd2 hd1
      go_wp2
      go_ret
      refine ⟨by rw [HE.out]; rfl, ov, ?_, (hk9.setCell _ (.inl rfl) _).setCell _ (.inl rfl) _, fun g h => .inl h⟩
      rw [HE.out, finR_n HR.out]
      exact h2.out.putSteps _
  · rw [storeE_op s.fs at_ i.op (by omega), ← hn, if_neg hz] at hE0
    have HE := Lib.hid (stepM_bad HO.out HST.out (z := 33) (by decide) hE0)
    have HMy := Lib.hid (fun W (hW : RefAt W m PA pc ov iv s) => r3may_is W m PA pc ov iv s at_ n (n : Int) 2 rfl false (decide_eq_false hz) hal hn8 (.inr (.inl rfl)) hW)
    have HWd := Lib.hid (show ∀ W : World, Calls Tryz.prog 36 #[.int .i64 (i.op : Int)] W fun e w' => e = .returned (.int .i64 (n : Int)) ∧ w' = W from fun W => by rw [hn]; exact r3width_any i.op (by omega) W)
    clear hE0 hn hz h1 h2
    go_wp2_with fail
    refine Calls.mono (HWd.out _) ?_
    rintro e w' ⟨rfl, rfl⟩
    go_wp2_with fail
    refine Calls.mono (HMy.out _ hM5) ?_
    rintro e w6 ⟨rfl, hB6⟩
    have hM6 := hM5.below hB6
    have hi6 := (hB6.block _ (lt_of_block hi5)).trans hi5
    have i16 := (obj_cell hi6 1).trans rfl
    have a06 := hM6.cpc
    have l06 := hM6.lt
    have i06 := (obj_cell hi6 0).trans rfl
    go_wp2_with fail
    refine Calls.mono (r3fault_any _ m PA pc ov iv s hM6 33) ?_
    rintro e w8 ⟨rfl, rfl⟩
    go_wp2
    go_ret
    exact ⟨by rw [HE.out]; rfl, ov, by rw [HE.out]; exact hM6.putFault 33, (KeptBut.of_below (hB5.trans (hB6.mono hB5.size))).setCell _ (.inl rfl) _, fun g h => .inl h⟩
end
end Go.Proofs

/- (*patinaref03.Machine).Step: the case Imm. (Printed by wip/tools/gen_refs.py.) -/
namespace Go.Proofs
open Go Go.RowKit Go.Pat
section
variable (w : World) (m : Nat) (PA : Option Addr) (pc : Nat) (ov iv : Value) (s : Ms)
set_option maxRecDepth 20000 in
set_option maxHeartbeats 8000000 in
theorem r3step_Imm (hM : RefAt w m PA pc ov iv s) (ho : overB s.c = false) (h0 : s.c.reg 0 = 0) (x : Nat) (hf : fetchM s.fs s.c.pc = (x, 0)) (i : Ins) (hi : decR x = some i) (h1 : 22 ≤ i.op) (h2 : i.op ≤ 34) :
    Calls Tryz.prog 20 #[.pointer (some ⟨m, 0, none⟩)] w (RStepTo m PA pc ov iv s (stepM s) w) := by
  have hh : s.c.halted = false ∧ s.c.fault = 0 := by unfold overB at ho; simpa using ho
  have c34 := hM.chalted
  have c36 := hM.cfault
  rw [hh.1] at c34
  rw [hh.2] at c36
  have c0 := hM.cpc
  have hml := hM.lt
  have hpc := hM.pc
  obtain ⟨f4, f5, f6⟩ := fetch_ok hf
  have hx : x < 4294967296 := by have := fetchM_lt s.fs s.c.pc; rw [hf] at this; exact this
  have hx32 : IntKind.u32.wrap (x : Int) = (x : Int) := by rw [IntKind.wrap_u32]; omega
  have t4 : ((s.c.pc : Int) % 4 != 0) = false := by simp; omega
  have HMay := Lib.hid (r3may_is w m PA pc ov iv s s.c.pc 4 4 1 rfl true (decide_eq_true f5) hpc (by decide) (.inl rfl) hM)
  have HLd := Lib.hid (fun W (hW : RefAt W m PA pc ov iv s) => r3load_is W m PA pc ov iv s s.c.pc 4 x 4 1 rfl (by decide) f5 f6 hW)
  have HM := Lib.hid hM
  obtain ⟨b1, b2, b3, b4, b5⟩ := decR_some hi
  have HDc := Lib.hid (fun W => r1dec_st W x hx i hi)
  have HST := Lib.hid (show innerM s = execM i s from by unfold innerM; rw [hf, if_pos rfl, hi])
  have HI := Lib.hid hi
  have HO := Lib.hid ho
  have H0 := Lib.hid h0
  clear hM hh hf f4 f5 f6 hi ho h0
  go_enter Tryz.func20, Tryz.ntmps20
  go_upto_region 6 with (first
    | (go_at_call 31; with_reducible refine HMay.out.mono ?_; rintro e w1 ⟨rfl, hB1⟩; have hM1 := HM.out.below hB1; have a0 := hM1.cpc; have am := hM1.lt; have H1 := Lib.hid (And.intro hM1 hB1); clear hM1 hB1)
    | (go_at_call 34; with_reducible refine (HLd.out _ H1.out.1).mono ?_; rintro e w2 ⟨rfl, hB2⟩; have hB02 := H1.out.2.trans (hB2.mono H1.out.2.size); have H2 := Lib.hid hB02; clear hB2 hB02)
    | (go_at_call 33; with_reducible refine (HDc.out _).mono ?_; rintro e w3 ⟨rfl, hB3⟩; have H3 := Lib.hid (H2.out.trans (hB3.mono H2.out.size)); clear hB3))
  obtain ⟨w4, hw4⟩ : ∃ W : World, W = w3.alloc (.cells #[.int .i64 (i.op : Int), .int .i64 (i.rd : Int), .int .i64 (i.rs1 : Int), .int .i64 (i.rs2 : Int), .int .i64 i.imm] 78) := ⟨_, rfl⟩
  have hi0 : w4.heap[w3.heap.size]? = some (.cells #[.int .i64 (i.op : Int), .int .i64 (i.rd : Int), .int .i64 (i.rs1 : Int), .int .i64 (i.rs2 : Int), .int .i64 i.imm] 78 (0, 0)) := by rw [hw4]; exact heap_alloc_new w3 _
  have hB : Below w.heap.size w w4 := by rw [hw4]; exact H3.out.alloc H3.out.size _
  rw [← hw4]
  have hbx : w.heap.size ≤ w3.heap.size := H3.out.size
  clear hw4 c0 c34 c36 a0 am hml hx32 t4 HMay HLd HDc H1 H2 H3
  have hM4 := HM.out.below hB
  have i1 := (obj_cell hi0 1).trans rfl
  have i2 := (obj_cell hi0 2).trans rfl
  have i3 := (obj_cell hi0 3).trans rfl
  have i4 := (obj_cell hi0 4).trans rfl
  have a0 := hM4.cpc
  have r1 := hM4.creg i.rs1 b4
  have r2 := hM4.creg i.rs2 b5
  have rd := hM4.creg i.rd b3
  have i0 := (obj_cell hi0 0).trans rfl
  have n1 : (i.rs1 : Int) < 32 := by omega
  have n2 : (i.rs2 : Int) < 32 := by omega
  have n3 : (i.rd : Int) < 32 := by omega
  have hml := hM4.lt
  go_wp2_with fail
  go_quiet (fail)
  obtain ⟨qa, hqa⟩ : ∃ n, n = nq := ⟨_, rfl⟩
  rw [← hqa]
  clear hqa
  go_wp2_with fail
  go_quiet (fail)
  obtain ⟨qb, hqb⟩ : ∃ n, n = nq := ⟨_, rfl⟩
  rw [← hqb]
  clear hqb
  go_wp2_with fail
  go_quiet (fail)
  obtain ⟨qc, hqc⟩ : ∃ n, n = nq := ⟨_, rfl⟩
  rw [← hqc]
  clear hqc
  rw [show IntKind.u64.wrap i.imm = ((wrN i.imm : Nat) : Int) from (wrN_is _).symm, show IntKind.u64.wrap ((s.c.pc : Int) + 4) = ((nextPc s : Nat) : Int) from nextPc_is s]
  obtain ⟨w5, hw5⟩ : ∃ W, W = (w4.drewN (qa + qb)).drewN qc := ⟨_, rfl⟩
  rw [← hw5]
  have hi5 : w5.heap[w3.heap.size]? = some (.cells #[.int .i64 (i.op : Int), .int .i64 (i.rd : Int), .int .i64 (i.rs1 : Int), .int .i64 (i.rs2 : Int), .int .i64 i.imm] 78 (0, 0)) := by rw [hw5]; exact ((bdrewN (bdrewN (Below.refl w4.heap.size w4) _) _).block _ (lt_of_block hi0)).trans hi0
  have hB5 : Below w.heap.size w w5 := by rw [hw5]; exact bdrewN (bdrewN hB _) _
  clear hw5 qa qb qc i0 i1 i2 i3 i4 a0 r1 r2 rd hml hM4 hB hi0
  have hM5 := HM.out.below hB5
  have i0 := (obj_cell hi5 0).trans rfl
  have i1 := (obj_cell hi5 1).trans rfl
  have a0 := hM5.cpc
  have hml := hM5.lt
  have e1 : ((i.op : Int) == 1) = false := eqF (b := 1) (by omega)
  have e2 : ((i.op : Int) == 2) = false := eqF (b := 2) (by omega)
  have e3 : ((i.op : Int) == 3) = false := eqF (b := 3) (by omega)
  have e4 : ((i.op : Int) == 4) = false := eqF (b := 4) (by omega)
  have e10 : decide ((i.op : Int) ≤ 10) = false := decide_eq_false (by omega)
  have e17 : decide ((i.op : Int) ≤ 17) = false := decide_eq_false (by omega)
  have e21 : decide ((i.op : Int) ≤ 21) = false := decide_eq_false (by omega)
  have e64 : ((i.op : Int) == 64) = false := eqF (b := 64) (by omega)
  have e65 : ((i.op : Int) == 65) = false := eqF (b := 65) (by omega)
  have e63 : ((i.op : Int) == 63) = false := eqF (b := 63) (by omega)
  have e34 : decide ((i.op : Int) ≤ 34) = true := decide_eq_true (by omega)
  have hE := stepM_put HO.out H0.out HST.out (show execM i s = (0, { s with c := s.c.put i.rd (aluV i.op (s.c.reg i.rs1) (wrN i.imm)).toNat (nextPc s) }) by unfold execM; rw [if_neg (by omega), if_neg (by omega), if_neg (by omega), if_neg (by omega), if_neg (by omega), if_neg (by omega), if_neg (by omega), if_pos (by omega)])
  obtain ⟨hv, hvl⟩ := aluV_nat i.op (s.c.reg i.rs1) (wrN i.imm) (by omega) (by omega) (hM5.small _) (wrN_lt _)
  obtain ⟨R, hR⟩ : ∃ R, R = (aluV i.op (s.c.reg i.rs1) (wrN i.imm)).toNat := ⟨_, rfl⟩
  rw [← hR] at hv hvl hE
  have hRl := hvl
  obtain ⟨P, hP⟩ : ∃ n, n = nextPc s := ⟨_, rfl⟩
  have hPl : P < 18446744073709551616 := by rw [hP]; exact nextPc_lt s
  rw [← hP] at hE ⊢
  have HA := Lib.hid (show ∀ W : World, Calls Tryz.prog 40 #[.int .i64 (i.op : Int), .int .u64 (s.c.reg i.rs1 : Nat), .int .u64 ((wrN i.imm) : Nat)] W fun e w' => e = .returned (.tuple #[.int .u64 (R : Int), .int .i64 0]) ∧ Below W.heap.size W w' from fun W => by
    rw [← hv]; exact rAlu3_in i.op (s.c.reg i.rs1) (wrN i.imm) (by omega) (by omega) (hM5.small _) (wrN_lt _) W)
  have HE := Lib.hid hE
  clear hv hR hP hE h1 h2 hvl
  go_wp2_with fail
  refine Calls.mono (HA.out _) ?_
  rintro e w6 ⟨rfl, hB6⟩
  have hM6 := hM5.below hB6
  have hi6 := (hB6.block _ (lt_of_block hi5)).trans hi5
  have i16 := (obj_cell hi6 1).trans rfl
  have a06 := hM6.cpc
  have l06 := hM6.lt
  by_cases hr : i.rd = 0
  · have t0 : ((i.rd : Int) != 0) = false := by simp; omega
    have HR := Lib.hid hr
    clear hr
    have hd2 := hM6.putPc P hPl
    have p33 := hd2.csteps
    have g0 := hM6.fz 0
    have g33 := hd2.fz 33
    have h2 := Lib.hid hd2
    clear hd2
    go_wp2_with fail
    go_ret
    refine ⟨by rw [HE.out]; rfl, ov, ?_, ((KeptBut.of_below (hB5.trans (hB6.mono hB5.size))).setCell _ (.inl rfl) _).setCell _ (.inl rfl) _, fun g h => .inl h⟩
    rw [HE.out, finR_0 HR.out]
    exact h2.out.putSteps _
  · have t0 : ((i.rd : Int) != 0) = true := by simp; omega
    have HR := Lib.hid hr
    clear hr
    have g1 := hM6.fz (1 + i.rd)
    have q1 := hM6.creg i.rd b3
    go_upto_region 46 with fail
    go_region
    obtain ⟨w9, hw9⟩ : ∃ W, W = (w6.setCell ⟨m, 1 + i.rd, none⟩ (.int .u64 (R : Int))).drew := ⟨_, rfl⟩
    rw [← hw9]
    have hd1 := (hM6.putReg i.rd R b3 hRl).below (Below.refl _ _).drew
    rw [← hw9] at hd1
    have hk9 : KeptBut (mine m s.fs ov) w w9 := by rw [hw9]; exact ((KeptBut.of_below (hB5.trans (hB6.mono hB5.size))).setCell _ (.inl rfl) _).trans (.of_below (Below.refl _ _).drew)
    clear hw9
    have hd2 := hd1.putPc P hPl
    have g0 := hd1.fz 0
    have p0 := hd1.cpc
    have l6 := hd1.lt
    have p33 := hd2.csteps
    have g33 := hd2.fz 33
    have h2 := Lib.hid hd2
    clear hd2 hd1
    go_wp2
    go_ret
    refine ⟨by rw [HE.out]; rfl, ov, ?_, (hk9.setCell _ (.inl rfl) _).setCell _ (.inl rfl) _, fun g h => .inl h⟩
    rw [HE.out, finR_n HR.out]
    exact h2.out.putSteps _
end
end Go.Proofs

/- (*patinaref03.Machine).Step: the case Reg. (Printed by wip/tools/gen_refs.py.) -/
namespace Go.Proofs
open Go Go.RowKit Go.Pat
section
variable (w : World) (m : Nat) (PA : Option Addr) (pc : Nat) (ov iv : Value) (s : Ms)
set_option maxRecDepth 20000 in
set_option maxHeartbeats 8000000 in
theorem r3step_Reg (hM : RefAt w m PA pc ov iv s) (ho : overB s.c = false) (h0 : s.c.reg 0 = 0) (x : Nat) (hf : fetchM s.fs s.c.pc = (x, 0)) (i : Ins) (hi : decR x = some i) (h1 : 35 ≤ i.op) (h2 : i.op ≤ 62) :
    Calls Tryz.prog 20 #[.pointer (some ⟨m, 0, none⟩)] w (RStepTo m PA pc ov iv s (stepM s) w) := by
  have hh : s.c.halted = false ∧ s.c.fault = 0 := by unfold overB at ho; simpa using ho
  have c34 := hM.chalted
  have c36 := hM.cfault
  rw [hh.1] at c34
  rw [hh.2] at c36
  have c0 := hM.cpc
  have hml := hM.lt
  have hpc := hM.pc
  obtain ⟨f4, f5, f6⟩ := fetch_ok hf
  have hx : x < 4294967296 := by have := fetchM_lt s.fs s.c.pc; rw [hf] at this; exact this
  have hx32 : IntKind.u32.wrap (x : Int) = (x : Int) := by rw [IntKind.wrap_u32]; omega
  have t4 : ((s.c.pc : Int) % 4 != 0) = false := by simp; omega
  have HMay := Lib.hid (r3may_is w m PA pc ov iv s s.c.pc 4 4 1 rfl true (decide_eq_true f5) hpc (by decide) (.inl rfl) hM)
  have HLd := Lib.hid (fun W (hW : RefAt W m PA pc ov iv s) => r3load_is W m PA pc ov iv s s.c.pc 4 x 4 1 rfl (by decide) f5 f6 hW)
  have HM := Lib.hid hM
  obtain ⟨b1, b2, b3, b4, b5⟩ := decR_some hi
  have HDc := Lib.hid (fun W => r1dec_st W x hx i hi)
  have HST := Lib.hid (show innerM s = execM i s from by unfold innerM; rw [hf, if_pos rfl, hi])
  have HI := Lib.hid hi
  have HO := Lib.hid ho
  have H0 := Lib.hid h0
  clear hM hh hf f4 f5 f6 hi ho h0
  go_enter Tryz.func20, Tryz.ntmps20
  go_upto_region 6 with (first
    | (go_at_call 31; with_reducible refine HMay.out.mono ?_; rintro e w1 ⟨rfl, hB1⟩; have hM1 := HM.out.below hB1; have a0 := hM1.cpc; have am := hM1.lt; have H1 := Lib.hid (And.intro hM1 hB1); clear hM1 hB1)
    | (go_at_call 34; with_reducible refine (HLd.out _ H1.out.1).mono ?_; rintro e w2 ⟨rfl, hB2⟩; have hB02 := H1.out.2.trans (hB2.mono H1.out.2.size); have H2 := Lib.hid hB02; clear hB2 hB02)
    | (go_at_call 33; with_reducible refine (HDc.out _).mono ?_; rintro e w3 ⟨rfl, hB3⟩; have H3 := Lib.hid (H2.out.trans (hB3.mono H2.out.size)); clear hB3))
  obtain ⟨w4, hw4⟩ : ∃ W : World, W = w3.alloc (.cells #[.int .i64 (i.op : Int), .int .i64 (i.rd : Int), .int .i64 (i.rs1 : Int), .int .i64 (i.rs2 : Int), .int .i64 i.imm] 78) := ⟨_, rfl⟩
  have hi0 : w4.heap[w3.heap.size]? = some (.cells #[.int .i64 (i.op : Int), .int .i64 (i.rd : Int), .int .i64 (i.rs1 : Int), .int .i64 (i.rs2 : Int), .int .i64 i.imm] 78 (0, 0)) := by rw [hw4]; exact heap_alloc_new w3 _
  have hB : Below w.heap.size w w4 := by rw [hw4]; exact H3.out.alloc H3.out.size _
  rw [← hw4]
  have hbx : w.heap.size ≤ w3.heap.size := H3.out.size
  clear hw4 c0 c34 c36 a0 am hml hx32 t4 HMay HLd HDc H1 H2 H3
  have hM4 := HM.out.below hB
  have i1 := (obj_cell hi0 1).trans rfl
  have i2 := (obj_cell hi0 2).trans rfl
  have i3 := (obj_cell hi0 3).trans rfl
  have i4 := (obj_cell hi0 4).trans rfl
  have a0 := hM4.cpc
  have r1 := hM4.creg i.rs1 b4
  have r2 := hM4.creg i.rs2 b5
  have rd := hM4.creg i.rd b3
  have i0 := (obj_cell hi0 0).trans rfl
  have n1 : (i.rs1 : Int) < 32 := by omega
  have n2 : (i.rs2 : Int) < 32 := by omega
  have n3 : (i.rd : Int) < 32 := by omega
  have hml := hM4.lt
  go_wp2_with fail
  go_quiet (fail)
  obtain ⟨qa, hqa⟩ : ∃ n, n = nq := ⟨_, rfl⟩
  rw [← hqa]
  clear hqa
  go_wp2_with fail
  go_quiet (fail)
  obtain ⟨qb, hqb⟩ : ∃ n, n = nq := ⟨_, rfl⟩
  rw [← hqb]
  clear hqb
  go_wp2_with fail
  go_quiet (fail)
  obtain ⟨qc, hqc⟩ : ∃ n, n = nq := ⟨_, rfl⟩
  rw [← hqc]
  clear hqc
  rw [show IntKind.u64.wrap i.imm = ((wrN i.imm : Nat) : Int) from (wrN_is _).symm, show IntKind.u64.wrap ((s.c.pc : Int) + 4) = ((nextPc s : Nat) : Int) from nextPc_is s]
  obtain ⟨w5, hw5⟩ : ∃ W, W = (w4.drewN (qa + qb)).drewN qc := ⟨_, rfl⟩
  rw [← hw5]
  have hi5 : w5.heap[w3.heap.size]? = some (.cells #[.int .i64 (i.op : Int), .int .i64 (i.rd : Int), .int .i64 (i.rs1 : Int), .int .i64 (i.rs2 : Int), .int .i64 i.imm] 78 (0, 0)) := by rw [hw5]; exact ((bdrewN (bdrewN (Below.refl w4.heap.size w4) _) _).block _ (lt_of_block hi0)).trans hi0
  have hB5 : Below w.heap.size w w5 := by rw [hw5]; exact bdrewN (bdrewN hB _) _
  clear hw5 qa qb qc i0 i1 i2 i3 i4 a0 r1 r2 rd hml hM4 hB hi0
  have hM5 := HM.out.below hB5
  have i0 := (obj_cell hi5 0).trans rfl
  have i1 := (obj_cell hi5 1).trans rfl
  have a0 := hM5.cpc
  have hml := hM5.lt
  have e1 : ((i.op : Int) == 1) = false := eqF (b := 1) (by omega)
  have e2 : ((i.op : Int) == 2) = false := eqF (b := 2) (by omega)
  have e3 : ((i.op : Int) == 3) = false := eqF (b := 3) (by omega)
  have e4 : ((i.op : Int) == 4) = false := eqF (b := 4) (by omega)
  have e10 : decide ((i.op : Int) ≤ 10) = false := decide_eq_false (by omega)
  have e17 : decide ((i.op : Int) ≤ 17) = false := decide_eq_false (by omega)
  have e21 : decide ((i.op : Int) ≤ 21) = false := decide_eq_false (by omega)
  have e64 : ((i.op : Int) == 64) = false := eqF (b := 64) (by omega)
  have e65 : ((i.op : Int) == 65) = false := eqF (b := 65) (by omega)
  have e63 : ((i.op : Int) == 63) = false := eqF (b := 63) (by omega)
  have e34 : decide ((i.op : Int) ≤ 34) = false := decide_eq_false (by omega)
  have hE := stepM_put HO.out H0.out HST.out (show execM i s = (0, { s with c := s.c.put i.rd (aluV i.op (s.c.reg i.rs1) (s.c.reg i.rs2)).toNat (nextPc s) }) by unfold execM; rw [if_neg (by omega), if_neg (by omega), if_neg (by omega), if_neg (by omega), if_neg (by omega), if_neg (by omega), if_neg (by omega), if_neg (by omega), if_pos (by omega)])
  obtain ⟨hv, hvl⟩ := aluV_nat i.op (s.c.reg i.rs1) (s.c.reg i.rs2) (by omega) (by omega) (hM5.small _) (hM5.small _)
  obtain ⟨R, hR⟩ : ∃ R, R = (aluV i.op (s.c.reg i.rs1) (s.c.reg i.rs2)).toNat := ⟨_, rfl⟩
  rw [← hR] at hv hvl hE
  have hRl := hvl
  obtain ⟨P, hP⟩ : ∃ n, n = nextPc s := ⟨_, rfl⟩
  have hPl : P < 18446744073709551616 := by rw [hP]; exact nextPc_lt s
  rw [← hP] at hE ⊢
  have HA := Lib.hid (show ∀ W : World, Calls Tryz.prog 40 #[.int .i64 (i.op : Int), .int .u64 (s.c.reg i.rs1 : Nat), .int .u64 ((s.c.reg i.rs2) : Nat)] W fun e w' => e = .returned (.tuple #[.int .u64 (R : Int), .int .i64 0]) ∧ Below W.heap.size W w' from fun W => by
    rw [← hv]; exact rAlu3_in i.op (s.c.reg i.rs1) (s.c.reg i.rs2) (by omega) (by omega) (hM5.small _) (hM5.small _) W)
  have HE := Lib.hid hE
  clear hv hR hP hE h1 h2 hvl
  go_wp2_with fail
  refine Calls.mono (HA.out _) ?_
  rintro e w6 ⟨rfl, hB6⟩
  have hM6 := hM5.below hB6
  have hi6 := (hB6.block _ (lt_of_block hi5)).trans hi5
  have i16 := (obj_cell hi6 1).trans rfl
  have a06 := hM6.cpc
  have l06 := hM6.lt
  by_cases hr : i.rd = 0
  · have t0 : ((i.rd : Int) != 0) = false := by simp; omega
    have HR := Lib.hid hr
    clear hr
    have hd2 := hM6.putPc P hPl
    have p33 := hd2.csteps
    have g0 := hM6.fz 0
    have g33 := hd2.fz 33
    have h2 := Lib.hid hd2
    clear hd2
    go_wp2_with fail
    go_ret
    refine ⟨by rw [HE.out]; rfl, ov, ?_, ((KeptBut.of_below (hB5.trans (hB6.mono hB5.size))).setCell _ (.inl rfl) _).setCell _ (.inl rfl) _, fun g h => .inl h⟩
    rw [HE.out, finR_0 HR.out]
    exact h2.out.putSteps _
  · have t0 : ((i.rd : Int) != 0) = true := by simp; omega
    have HR := Lib.hid hr
    clear hr
    have g1 := hM6.fz (1 + i.rd)
    have q1 := hM6.creg i.rd b3
    go_upto_region 46 with fail
    go_region
    obtain ⟨w9, hw9⟩ : ∃ W, W = (w6.setCell ⟨m, 1 + i.rd, none⟩ (.int .u64 (R : Int))).drew := ⟨_, rfl⟩
    rw [← hw9]
    have hd1 := (hM6.putReg i.rd R b3 hRl).below (Below.refl _ _).drew
    rw [← hw9] at hd1
    have hk9 : KeptBut (mine m s.fs ov) w w9 := by rw [hw9]; exact ((KeptBut.of_below (hB5.trans (hB6.mono hB5.size))).setCell _ (.inl rfl) _).trans (.of_below (Below.refl _ _).drew)
    clear hw9
    have hd2 := hd1.putPc P hPl
    have g0 := hd1.fz 0
    have p0 := hd1.cpc
    have l6 := hd1.lt
    have p33 := hd2.csteps
    have g33 := hd2.fz 33
    have h2 := Lib.hid hd2
    clear hd2 hd1
    go_wp2
    go_ret
    refine ⟨by rw [HE.out]; rfl, ov, ?_, (hk9.setCell _ (.inl rfl) _).setCell _ (.inl rfl) _, fun g h => .inl h⟩
    rw [HE.out, finR_n HR.out]
    exact h2.out.putSteps _
end
end Go.Proofs

/- (*patinaref03.Machine).Step: the case Ec. (Printed by wip/tools/gen_refs.py.) -/
namespace Go.Proofs
open Go Go.RowKit Go.Pat
section
variable (w : World) (m : Nat) (PA : Option Addr) (pc : Nat) (ov iv : Value) (s : Ms)
set_option maxRecDepth 20000 in
set_option maxHeartbeats 8000000 in
theorem r3step_Ec (hM : RefAt w m PA pc ov iv s) (ho : overB s.c = false) (h0 : s.c.reg 0 = 0) (x : Nat) (hf : fetchM s.fs s.c.pc = (x, 0)) (i : Ins) (hi : decR x = some i) (h1 : 64 ≤ i.op) (h2 : i.op ≤ 64) (hroom : s.c.out.length + 1 ≤ 140737488355328) :
    Calls Tryz.prog 20 #[.pointer (some ⟨m, 0, none⟩)] w (RStepTo m PA pc ov iv s (stepM s) w) := by
  have hh : s.c.halted = false ∧ s.c.fault = 0 := by unfold overB at ho; simpa using ho
  have c34 := hM.chalted
  have c36 := hM.cfault
  rw [hh.1] at c34
  rw [hh.2] at c36
  have c0 := hM.cpc
  have hml := hM.lt
  have hpc := hM.pc
  obtain ⟨f4, f5, f6⟩ := fetch_ok hf
  have hx : x < 4294967296 := by have := fetchM_lt s.fs s.c.pc; rw [hf] at this; exact this
  have hx32 : IntKind.u32.wrap (x : Int) = (x : Int) := by rw [IntKind.wrap_u32]; omega
  have t4 : ((s.c.pc : Int) % 4 != 0) = false := by simp; omega
  have HMay := Lib.hid (r3may_is w m PA pc ov iv s s.c.pc 4 4 1 rfl true (decide_eq_true f5) hpc (by decide) (.inl rfl) hM)
  have HLd := Lib.hid (fun W (hW : RefAt W m PA pc ov iv s) => r3load_is W m PA pc ov iv s s.c.pc 4 x 4 1 rfl (by decide) f5 f6 hW)
  have HM := Lib.hid hM
  obtain ⟨b1, b2, b3, b4, b5⟩ := decR_some hi
  have HDc := Lib.hid (fun W => r1dec_st W x hx i hi)
  have HST := Lib.hid (show innerM s = execM i s from by unfold innerM; rw [hf, if_pos rfl, hi])
  have HI := Lib.hid hi
  have HO := Lib.hid ho
  have H0 := Lib.hid h0
  clear hM hh hf f4 f5 f6 hi ho h0
  go_enter Tryz.func20, Tryz.ntmps20
  go_upto_region 6 with (first
    | (go_at_call 31; with_reducible refine HMay.out.mono ?_; rintro e w1 ⟨rfl, hB1⟩; have hM1 := HM.out.below hB1; have a0 := hM1.cpc; have am := hM1.lt; have H1 := Lib.hid (And.intro hM1 hB1); clear hM1 hB1)
    | (go_at_call 34; with_reducible refine (HLd.out _ H1.out.1).mono ?_; rintro e w2 ⟨rfl, hB2⟩; have hB02 := H1.out.2.trans (hB2.mono H1.out.2.size); have H2 := Lib.hid hB02; clear hB2 hB02)
    | (go_at_call 33; with_reducible refine (HDc.out _).mono ?_; rintro e w3 ⟨rfl, hB3⟩; have H3 := Lib.hid (H2.out.trans (hB3.mono H2.out.size)); clear hB3))
  obtain ⟨w4, hw4⟩ : ∃ W : World, W = w3.alloc (.cells #[.int .i64 (i.op : Int), .int .i64 (i.rd : Int), .int .i64 (i.rs1 : Int), .int .i64 (i.rs2 : Int), .int .i64 i.imm] 78) := ⟨_, rfl⟩
  have hi0 : w4.heap[w3.heap.size]? = some (.cells #[.int .i64 (i.op : Int), .int .i64 (i.rd : Int), .int .i64 (i.rs1 : Int), .int .i64 (i.rs2 : Int), .int .i64 i.imm] 78 (0, 0)) := by rw [hw4]; exact heap_alloc_new w3 _
  have hB : Below w.heap.size w w4 := by rw [hw4]; exact H3.out.alloc H3.out.size _
  rw [← hw4]
  have hbx : w.heap.size ≤ w3.heap.size := H3.out.size
  clear hw4 c0 c34 c36 a0 am hml hx32 t4 HMay HLd HDc H1 H2 H3
  have hM4 := HM.out.below hB
  have i1 := (obj_cell hi0 1).trans rfl
  have i2 := (obj_cell hi0 2).trans rfl
  have i3 := (obj_cell hi0 3).trans rfl
  have i4 := (obj_cell hi0 4).trans rfl
  have a0 := hM4.cpc
  have r1 := hM4.creg i.rs1 b4
  have r2 := hM4.creg i.rs2 b5
  have rd := hM4.creg i.rd b3
  have i0 := (obj_cell hi0 0).trans rfl
  have n1 : (i.rs1 : Int) < 32 := by omega
  have n2 : (i.rs2 : Int) < 32 := by omega
  have n3 : (i.rd : Int) < 32 := by omega
  have hml := hM4.lt
  go_wp2_with fail
  go_quiet (fail)
  obtain ⟨qa, hqa⟩ : ∃ n, n = nq := ⟨_, rfl⟩
  rw [← hqa]
  clear hqa
  go_wp2_with fail
  go_quiet (fail)
  obtain ⟨qb, hqb⟩ : ∃ n, n = nq := ⟨_, rfl⟩
  rw [← hqb]
  clear hqb
  go_wp2_with fail
  go_quiet (fail)
  obtain ⟨qc, hqc⟩ : ∃ n, n = nq := ⟨_, rfl⟩
  rw [← hqc]
  clear hqc
  rw [show IntKind.u64.wrap i.imm = ((wrN i.imm : Nat) : Int) from (wrN_is _).symm, show IntKind.u64.wrap ((s.c.pc : Int) + 4) = ((nextPc s : Nat) : Int) from nextPc_is s]
  obtain ⟨w5, hw5⟩ : ∃ W, W = (w4.drewN (qa + qb)).drewN qc := ⟨_, rfl⟩
  rw [← hw5]
  have hi5 : w5.heap[w3.heap.size]? = some (.cells #[.int .i64 (i.op : Int), .int .i64 (i.rd : Int), .int .i64 (i.rs1 : Int), .int .i64 (i.rs2 : Int), .int .i64 i.imm] 78 (0, 0)) := by rw [hw5]; exact ((bdrewN (bdrewN (Below.refl w4.heap.size w4) _) _).block _ (lt_of_block hi0)).trans hi0
  have hB5 : Below w.heap.size w w5 := by rw [hw5]; exact bdrewN (bdrewN hB _) _
  clear hw5 qa qb qc i0 i1 i2 i3 i4 a0 r1 r2 rd hml hM4 hB hi0
  have hM5 := HM.out.below hB5
  have i0 := (obj_cell hi5 0).trans rfl
  have i1 := (obj_cell hi5 1).trans rfl
  have a0 := hM5.cpc
  have hml := hM5.lt
  have e1 : ((i.op : Int) == 1) = false := eqF (b := 1) (by omega)
  have e2 : ((i.op : Int) == 2) = false := eqF (b := 2) (by omega)
  have e3 : ((i.op : Int) == 3) = false := eqF (b := 3) (by omega)
  have e4 : ((i.op : Int) == 4) = false := eqF (b := 4) (by omega)
  have e10 : decide ((i.op : Int) ≤ 10) = false := decide_eq_false (by omega)
  have e17 : decide ((i.op : Int) ≤ 17) = false := decide_eq_false (by omega)
  have e21 : decide ((i.op : Int) ≤ 21) = false := decide_eq_false (by omega)
  have e64 : ((i.op : Int) == 64) = true := eqT (b := 64) (by omega)
  have hr : i.rd = 0 := decR_rd64 HI.out (by omega)
  have HCa := Lib.hid (fun W (hW : RefAt W m PA pc ov iv s) => r3call_any W m PA pc ov iv s hW hroom)
  obtain ⟨z, hz⟩ : ∃ z, z = (callM s).1 := ⟨_, rfl⟩
  obtain ⟨P, hP⟩ : ∃ n, n = nextPc s := ⟨_, rfl⟩
  have hPl : P < 18446744073709551616 := by rw [hP]; exact nextPc_lt s
  by_cases h0 : z = 0
  · have hE := stepM_call HO.out H0.out HST.out (p := nextPc s) (by unfold execM; rw [if_neg (by omega), if_neg (by omega), if_neg (by omega), if_neg (by omega), if_neg (by omega), if_neg (by omega), if_neg (by omega), if_neg (by omega), if_neg (by omega), if_neg (by omega), if_pos (by omega), if_pos (hz.symm.trans h0)])
    rw [← hP] at hE ⊢
    have HZ := Lib.hid hz
    have HE := Lib.hid hE
    clear hz hE hP h1 h2
    subst h0
    go_wp2_with fail
    refine Calls.mono (HCa.out _ hM5) ?_
    rintro e w6 ⟨rfl, ov', hM6, hK6, hO6, hF⟩
    rw [← HZ.out]
    have hi6 := (hK6.block _ (lt_of_block hi5) (fun hk => Nat.lt_irrefl _ (Nat.lt_of_lt_of_le (HM.out.mine_lt hk) hbx))).trans hi5
    have i16 := (obj_cell hi6 1).trans rfl
    have a06 := hM6.cpc
    have l06 := hM6.lt
    clear hF
    have t0 : ((i.rd : Int) != 0) = false := by simp; omega
    have HR := Lib.hid hr
    clear hr
    have hd2 := hM6.putPc P hPl
    have p33 := hd2.csteps
    have g0 := hM6.fz 0
    have g33 := hd2.fz 33
    have h2 := Lib.hid hd2
    clear hd2
    go_wp2_with fail
    go_ret
    refine ⟨by rw [HE.out]; rfl, ov', ?_, (((KeptBut.of_below hB5).trans hK6).setCell _ (.inl rfl) _).setCell _ (.inl rfl) _, fun g h => (hO6 g h).imp id (fun h => Nat.le_trans hB5.size h)⟩
    rw [HE.out, finR_0 rfl]
    exact h2.out.putSteps _
  · have HE := Lib.hid (stepM_bad HO.out HST.out (z := z) h0 (by unfold execM; rw [if_neg (by omega), if_neg (by omega), if_neg (by omega), if_neg (by omega), if_neg (by omega), if_neg (by omega), if_neg (by omega), if_neg (by omega), if_neg (by omega), if_neg (by omega), if_pos (by omega), if_neg (fun h => h0 (hz.trans h)), hz]))
    have HZ := Lib.hid hz
    clear hz h1 h2 hP
    have t1 : (z != 0) = true := by simp [h0]
    go_wp2_with fail
    refine Calls.mono (HCa.out _ hM5) ?_
    rintro e w6 ⟨rfl, ov', hM6, hK6, hO6, hF⟩
    have hF2 := hF (by rw [← HZ.out]; exact h0)
    rw [hF2] at hM6
    rw [← HZ.out]
    clear hF
    have l06 := hM6.lt
    go_wp2_with fail
    refine Calls.mono (r3fault_any _ m PA pc ov' iv s hM6 z) ?_
    rintro e w8 ⟨rfl, rfl⟩
    go_wp2
    go_ret
    exact ⟨by rw [HE.out]; rfl, ov', by rw [HE.out]; exact hM6.putFault z, ((KeptBut.of_below hB5).trans hK6).setCell _ (.inl rfl) _, fun g h => (hO6 g h).imp id (fun h => Nat.le_trans hB5.size h)⟩
end
end Go.Proofs
