/- (*cpu.Machine).step: the case Ec. -/
import Derived.Test.YtemngapfnkokiaaDoorStepC
import Derived.Test.YtemngapfnkokiaaDoorCall
import Derived.Deep.RegionHeld3
import Derived.Test.YtemngapfnkokiaaDoorLd
namespace Go.Proofs
open Go Go.RowKit Go.Pat
set_option maxRecDepth 20000 in
set_option maxHeartbeats 8000000 in
theorem step_Ec (w : World) (m p mb : Nat) (ov iv : Value) (s : Ms) (hM : MachAt w m p mb ov iv s) (hR : RvRows w) (x : Nat) (hf : fetchM s.fs s.c.pc = (x, 0)) (i : Ins) (hi : decR x = some i) (h1 : 64 ≤ i.op) (h2 : i.op ≤ 64) (hCall : ∀ W : World, MachAt W m p mb ov iv s → Calls Tryd.prog 98 #[.pointer (some ⟨m, 0, none⟩)] W (CallTo m p mb ov iv s W)) :
    Calls Tryd.prog 63 #[.pointer (some ⟨m, 0, none⟩)] w (StepTo m p mb ov iv s (execM i s) w) := by
  have hx : x < 4294967296 := by have := fetchM_lt s.fs s.c.pc; rw [hf] at this; exact this
  obtain ⟨b1, b2, b3, b4, b5⟩ := decR_some hi
  have a0 := hM.cpc
  have a39 := hM.cmem
  go_enter Tryd.func63, Tryd.ntmps63
  go_upto_region 1 with fail
  have hwd : Below w.heap.size w w.drew := (Below.refl _ _).drew
  go_region_held3 (fun w' => w'.cell? ⟨m, 0, none⟩ = some (.int .u64 (s.c.pc : Int)) ∧ w'.cell? ⟨m, 39, none⟩ = some (.pointer (some ⟨p, 0, none⟩)))
    (first | exact ⟨a0, a39⟩ | exact ⟨c0, c39⟩)
    (first | (go_at_call 94
              refine Calls.mono (Fetch_st w.drew p mb s.fs (hM.below hwd).mem s.c.pc hM.pc x 0 hf) ?_
              rintro e w1 ⟨rfl, hB1⟩
              have hB1' : Below w.heap.size w w1 := hwd.trans hB1
              have c0 := (hM.below hB1').cpc
              have c39 := (hM.below hB1').cmem))
  have hM1 := hM.below hB1'
  have hR1 := hR.below hB1'
  clear hf hB1 hwd c0 c39
  go_wp2_with fail
  refine Calls.mono (dec_st w1 hR1 x hx i hi) ?_
  rintro e w2 ⟨rfl, hB2⟩
  go_upto_region 5 with fail
  obtain ⟨w3, hw3⟩ : ∃ W : World, W = w2.alloc (.cells #[.int .i64 (i.op : Int), .int .i64 (i.rd : Int), .int .i64 (i.rs1 : Int), .int .i64 (i.rs2 : Int), .int .i64 i.imm] 32) := ⟨_, rfl⟩
  have hi0 : w3.heap[w2.heap.size]? = some (.cells #[.int .i64 (i.op : Int), .int .i64 (i.rd : Int), .int .i64 (i.rs1 : Int), .int .i64 (i.rs2 : Int), .int .i64 i.imm] 32 (0, 0)) := by rw [hw3]; exact heap_alloc_new w2 _
  have hB3 : Below w2.heap.size w2 w3 := by rw [hw3]; exact (Below.refl _ _).alloc (Nat.le_refl _) _
  rw [← hw3]
  clear hw3
  have hB : Below w.heap.size w w3 := hB1'.trans ((hB2.mono hB1'.size).trans (hB3.mono (Nat.le_trans hB1'.size hB2.size)))
  have hM3 := hM.below hB
  clear hM1 hR1 hB1' hB2 hB3 hR a0 a39 hi hx
  have i0 := (obj_cell hi0 0).trans rfl
  have i1 := (obj_cell hi0 1).trans rfl
  have i2 := (obj_cell hi0 2).trans rfl
  have i3 := (obj_cell hi0 3).trans rfl
  have i4 := (obj_cell hi0 4).trans rfl
  have a0 := hM3.cpc
  have r1 := hM3.creg i.rs1 b4
  have r2 := hM3.creg i.rs2 b5
  have n1 : (i.rs1 : Int) < 32 := by omega
  have n2 : (i.rs2 : Int) < 32 := by omega
  have n3 : (i.rd : Int) < 32 := by omega
  go_wp2_with fail
  go_quiet (fail)
  rw [show IntKind.u64.wrap i.imm = ((wrN i.imm : Nat) : Int) from (wrN_is _).symm, show IntKind.u64.wrap ((s.c.pc : Int) + 4) = ((nextPc s : Nat) : Int) from nextPc_is s]
  have rd := hM3.creg i.rd b3
  have fd := hM3.fz (1 + i.rd)
  have f0 := hM3.fz 0
  have e1 : ((i.op : Int) == 1) = false := eqF (b := 1) (by omega)
  have e2 : ((i.op : Int) == 2) = false := eqF (b := 2) (by omega)
  have e3 : ((i.op : Int) == 3) = false := eqF (b := 3) (by omega)
  have e4 : ((i.op : Int) == 4) = false := eqF (b := 4) (by omega)
  have e10 : decide ((i.op : Int) ≤ 10) = false := decide_eq_false (by omega)
  have e17 : decide ((i.op : Int) ≤ 17) = false := decide_eq_false (by omega)
  have e21 : decide ((i.op : Int) ≤ 21) = false := decide_eq_false (by omega)
  have e34 : decide ((i.op : Int) ≤ 34) = false := decide_eq_false (by omega)
  have e62 : decide ((i.op : Int) ≤ 62) = false := decide_eq_false (by omega)
  have e65 : ((i.op : Int) == 65) = false := eqF (b := 65) (by omega)
  have e64 : ((i.op : Int) == 64) = true := eqT (b := 64) (by omega)
  obtain ⟨z, hz⟩ : ∃ z, z = (callM s).1 := ⟨_, rfl⟩
  by_cases h0 : z = 0
  · have HE := Lib.hid (show execM i s = (0, { (callM s).2 with c := { (callM s).2.c with pc := nextPc s } }) by unfold execM; rw [if_neg (by omega), if_neg (by omega), if_neg (by omega), if_neg (by omega), if_neg (by omega), if_neg (by omega), if_neg (by omega), if_neg (by omega), if_neg (by omega), if_neg (by omega), if_pos (by omega), if_pos (hz.symm.trans h0)])
    have HZ := Lib.hid hz
    clear hz
    subst h0
    go_wp2_with fail
    refine Calls.mono (hCall _ (hM3.below (bdrewN (Below.refl _ _) _))) ?_
    rintro e w4 ⟨rfl, ov', hM4, hK4, hO4, hF⟩
    rw [← HZ.out]
    have c4 := hM4.cpc
    have f4 := hM4.fz 0
    go_wp2
    go_ret
    refine ⟨by rw [HE.out]; rfl, ov', ?_, ((KeptBut.of_below (bdrewN hB _)).trans hK4).setCell _ (.inl rfl) _, fun g h => (hO4 g h).imp id (fun h => Nat.le_trans hB.size h)⟩
    rw [HE.out]
    exact hM4.putPc (nextPc s) (nextPc_lt s)
  · have HE := Lib.hid (show execM i s = (z, s) by unfold execM; rw [if_neg (by omega), if_neg (by omega), if_neg (by omega), if_neg (by omega), if_neg (by omega), if_neg (by omega), if_neg (by omega), if_neg (by omega), if_neg (by omega), if_neg (by omega), if_pos (by omega), if_neg (fun h => h0 (hz.trans h)), hz])
    have HZ := Lib.hid hz
    clear hz
    have t0 : (z != 0) = true := by simp [h0]
    go_wp2_with fail
    refine Calls.mono (hCall _ (hM3.below (bdrewN (Below.refl _ _) _))) ?_
    rintro e w4 ⟨rfl, ov', hM4, hK4, hO4, hF⟩
    have hF2 := hF (by rw [← HZ.out]; exact h0)
    rw [hF2] at hM4
    rw [← HZ.out]
    clear hF
    go_wp2
    go_ret
    refine ⟨by rw [HE.out]; rfl, ov', ?_, (KeptBut.of_below (bdrewN hB _)).trans hK4, fun g h => (hO4 g h).imp id (fun h => Nat.le_trans hB.size h)⟩
    rw [HE.out]
    exact hM4
end Go.Proofs

/- (*cpu.Machine).step: the case Ld. -/
namespace Go.Proofs
open Go Go.RowKit Go.Pat
set_option maxRecDepth 20000 in
set_option maxHeartbeats 8000000 in
theorem step_Ld (w : World) (m p mb : Nat) (ov iv : Value) (s : Ms) (hM : MachAt w m p mb ov iv s) (hR : RvRows w) (x : Nat) (hf : fetchM s.fs s.c.pc = (x, 0)) (i : Ins) (hi : decR x = some i) (h1 : 11 ≤ i.op) (h2 : i.op ≤ 17) :
    Calls Tryd.prog 63 #[.pointer (some ⟨m, 0, none⟩)] w (StepTo m p mb ov iv s (execM i s) w) := by
  have hx : x < 4294967296 := by have := fetchM_lt s.fs s.c.pc; rw [hf] at this; exact this
  obtain ⟨b1, b2, b3, b4, b5⟩ := decR_some hi
  have a0 := hM.cpc
  have a39 := hM.cmem
  go_enter Tryd.func63, Tryd.ntmps63
  go_upto_region 1 with fail
  have hwd : Below w.heap.size w w.drew := (Below.refl _ _).drew
  go_region_held3 (fun w' => w'.cell? ⟨m, 0, none⟩ = some (.int .u64 (s.c.pc : Int)) ∧ w'.cell? ⟨m, 39, none⟩ = some (.pointer (some ⟨p, 0, none⟩)))
    (first | exact ⟨a0, a39⟩ | exact ⟨c0, c39⟩)
    (first | (go_at_call 94
              refine Calls.mono (Fetch_st w.drew p mb s.fs (hM.below hwd).mem s.c.pc hM.pc x 0 hf) ?_
              rintro e w1 ⟨rfl, hB1⟩
              have hB1' : Below w.heap.size w w1 := hwd.trans hB1
              have c0 := (hM.below hB1').cpc
              have c39 := (hM.below hB1').cmem))
  have hM1 := hM.below hB1'
  have hR1 := hR.below hB1'
  clear hf hB1 hwd c0 c39
  go_wp2_with fail
  refine Calls.mono (dec_st w1 hR1 x hx i hi) ?_
  rintro e w2 ⟨rfl, hB2⟩
  go_upto_region 5 with fail
  obtain ⟨w3, hw3⟩ : ∃ W : World, W = w2.alloc (.cells #[.int .i64 (i.op : Int), .int .i64 (i.rd : Int), .int .i64 (i.rs1 : Int), .int .i64 (i.rs2 : Int), .int .i64 i.imm] 32) := ⟨_, rfl⟩
  have hi0 : w3.heap[w2.heap.size]? = some (.cells #[.int .i64 (i.op : Int), .int .i64 (i.rd : Int), .int .i64 (i.rs1 : Int), .int .i64 (i.rs2 : Int), .int .i64 i.imm] 32 (0, 0)) := by rw [hw3]; exact heap_alloc_new w2 _
  have hB3 : Below w2.heap.size w2 w3 := by rw [hw3]; exact (Below.refl _ _).alloc (Nat.le_refl _) _
  rw [← hw3]
  clear hw3
  have hB : Below w.heap.size w w3 := hB1'.trans ((hB2.mono hB1'.size).trans (hB3.mono (Nat.le_trans hB1'.size hB2.size)))
  have hM3 := hM.below hB
  clear hM1 hR1 hB1' hB2 hB3 hR a0 a39 hi hx
  have i0 := (obj_cell hi0 0).trans rfl
  have i1 := (obj_cell hi0 1).trans rfl
  have i2 := (obj_cell hi0 2).trans rfl
  have i3 := (obj_cell hi0 3).trans rfl
  have i4 := (obj_cell hi0 4).trans rfl
  have a0 := hM3.cpc
  have r1 := hM3.creg i.rs1 b4
  have r2 := hM3.creg i.rs2 b5
  have n1 : (i.rs1 : Int) < 32 := by omega
  have n2 : (i.rs2 : Int) < 32 := by omega
  have n3 : (i.rd : Int) < 32 := by omega
  go_wp2_with fail
  go_quiet (fail)
  rw [show IntKind.u64.wrap i.imm = ((wrN i.imm : Nat) : Int) from (wrN_is _).symm, show IntKind.u64.wrap ((s.c.pc : Int) + 4) = ((nextPc s : Nat) : Int) from nextPc_is s]
  have rd := hM3.creg i.rd b3
  have fd := hM3.fz (1 + i.rd)
  have f0 := hM3.fz 0
  have e1 : ((i.op : Int) == 1) = false := eqF (b := 1) (by omega)
  have e2 : ((i.op : Int) == 2) = false := eqF (b := 2) (by omega)
  have e3 : ((i.op : Int) == 3) = false := eqF (b := 3) (by omega)
  have e4 : ((i.op : Int) == 4) = false := eqF (b := 4) (by omega)
  have e10 : decide ((i.op : Int) ≤ 10) = false := decide_eq_false (by omega)
  have e17 : decide ((i.op : Int) ≤ 17) = true := decide_eq_true (by omega)
  obtain ⟨at_, hat⟩ : ∃ n, n = (s.c.reg i.rs1 + wrN i.imm) % 18446744073709551616 := ⟨_, rfl⟩
  have hal : at_ < 18446744073709551616 := by rw [hat]; exact mod64_lt _
  have hE : execM i s = (if (loadM s.fs at_ (ldN i.op)).2 = 0 then (0, { s with c := s.c.put i.rd (ldV i.op (loadM s.fs at_ (ldN i.op)).1) (nextPc s) }) else (32, s)) := by unfold execM; rw [if_neg (by omega), if_neg (by omega), if_neg (by omega), if_neg (by omega), if_neg (by omega), if_pos (by omega), ← hat]
  have hadd := add_is (s.c.reg i.rs1) (wrN i.imm)
  rw [← hat] at hadd
  have HA := Lib.hid hadd
  clear hadd hat
  by_cases hz : (loadM s.fs at_ (ldN i.op)).2 = 0
  · rw [if_pos hz] at hE
    have HE := Lib.hid hE
    have HZ := Lib.hid hz
    clear hE hz
    go_wp2_with fail
    rw [HA.out]
    refine Calls.mono (cload_any i.op i.rd i.rs1 i.rs2 i.imm _ m p mb ov iv s (hM3.below (bdrewN (Below.refl _ _) _)) at_ hal b3 (by omega) (by omega)) ?_
    rintro e w4 ⟨rfl, hM4, hK4⟩
    rw [if_pos HZ.out] at hM4 ⊢
    have c4 := hM4.cpc
    have f4 := hM4.fz 0
    go_wp2
    go_ret
    refine ⟨by rw [HE.out]; rfl, ov, ?_, ((KeptBut.of_below (bdrewN hB _)).trans hK4).setCell _ (.inl rfl) _, fun g h => .inl h⟩
    rw [HE.out]
    exact hM4.putPc (nextPc s) (nextPc_lt s)
  · rw [if_neg hz] at hE
    have HE := Lib.hid hE
    have HZ := Lib.hid hz
    clear hE hz
    go_wp2_with fail
    rw [HA.out]
    refine Calls.mono (cload_any i.op i.rd i.rs1 i.rs2 i.imm _ m p mb ov iv s (hM3.below (bdrewN (Below.refl _ _) _)) at_ hal b3 (by omega) (by omega)) ?_
    rintro e w4 ⟨rfl, hM4, hK4⟩
    rw [if_neg HZ.out] at hM4 ⊢
    go_wp2
    go_ret
    refine ⟨by rw [HE.out]; rfl, ov, ?_, (KeptBut.of_below (bdrewN hB _)).trans hK4, fun g h => .inl h⟩
    rw [HE.out]
    exact hM4
end Go.Proofs

/- (*cpu.Machine).step: the case St. -/
namespace Go.Proofs
open Go Go.RowKit Go.Pat
set_option maxRecDepth 20000 in
set_option maxHeartbeats 8000000 in
theorem step_St (w : World) (m p mb : Nat) (ov iv : Value) (s : Ms) (hM : MachAt w m p mb ov iv s) (hR : RvRows w) (x : Nat) (hf : fetchM s.fs s.c.pc = (x, 0)) (i : Ins) (hi : decR x = some i) (h1 : 18 ≤ i.op) (h2 : i.op ≤ 21) :
    Calls Tryd.prog 63 #[.pointer (some ⟨m, 0, none⟩)] w (StepTo m p mb ov iv s (execM i s) w) := by
  have hx : x < 4294967296 := by have := fetchM_lt s.fs s.c.pc; rw [hf] at this; exact this
  obtain ⟨b1, b2, b3, b4, b5⟩ := decR_some hi
  have a0 := hM.cpc
  have a39 := hM.cmem
  go_enter Tryd.func63, Tryd.ntmps63
  go_upto_region 1 with fail
  have hwd : Below w.heap.size w w.drew := (Below.refl _ _).drew
  go_region_held3 (fun w' => w'.cell? ⟨m, 0, none⟩ = some (.int .u64 (s.c.pc : Int)) ∧ w'.cell? ⟨m, 39, none⟩ = some (.pointer (some ⟨p, 0, none⟩)))
    (first | exact ⟨a0, a39⟩ | exact ⟨c0, c39⟩)
    (first | (go_at_call 94
              refine Calls.mono (Fetch_st w.drew p mb s.fs (hM.below hwd).mem s.c.pc hM.pc x 0 hf) ?_
              rintro e w1 ⟨rfl, hB1⟩
              have hB1' : Below w.heap.size w w1 := hwd.trans hB1
              have c0 := (hM.below hB1').cpc
              have c39 := (hM.below hB1').cmem))
  have hM1 := hM.below hB1'
  have hR1 := hR.below hB1'
  clear hf hB1 hwd c0 c39
  go_wp2_with fail
  refine Calls.mono (dec_st w1 hR1 x hx i hi) ?_
  rintro e w2 ⟨rfl, hB2⟩
  go_upto_region 5 with fail
  obtain ⟨w3, hw3⟩ : ∃ W : World, W = w2.alloc (.cells #[.int .i64 (i.op : Int), .int .i64 (i.rd : Int), .int .i64 (i.rs1 : Int), .int .i64 (i.rs2 : Int), .int .i64 i.imm] 32) := ⟨_, rfl⟩
  have hi0 : w3.heap[w2.heap.size]? = some (.cells #[.int .i64 (i.op : Int), .int .i64 (i.rd : Int), .int .i64 (i.rs1 : Int), .int .i64 (i.rs2 : Int), .int .i64 i.imm] 32 (0, 0)) := by rw [hw3]; exact heap_alloc_new w2 _
  have hB3 : Below w2.heap.size w2 w3 := by rw [hw3]; exact (Below.refl _ _).alloc (Nat.le_refl _) _
  rw [← hw3]
  clear hw3
  have hB : Below w.heap.size w w3 := hB1'.trans ((hB2.mono hB1'.size).trans (hB3.mono (Nat.le_trans hB1'.size hB2.size)))
  have hM3 := hM.below hB
  clear hM1 hR1 hB1' hB2 hB3 hR a0 a39 hi hx
  have i0 := (obj_cell hi0 0).trans rfl
  have i1 := (obj_cell hi0 1).trans rfl
  have i2 := (obj_cell hi0 2).trans rfl
  have i3 := (obj_cell hi0 3).trans rfl
  have i4 := (obj_cell hi0 4).trans rfl
  have a0 := hM3.cpc
  have r1 := hM3.creg i.rs1 b4
  have r2 := hM3.creg i.rs2 b5
  have n1 : (i.rs1 : Int) < 32 := by omega
  have n2 : (i.rs2 : Int) < 32 := by omega
  have n3 : (i.rd : Int) < 32 := by omega
  go_wp2_with fail
  go_quiet (fail)
  rw [show IntKind.u64.wrap i.imm = ((wrN i.imm : Nat) : Int) from (wrN_is _).symm, show IntKind.u64.wrap ((s.c.pc : Int) + 4) = ((nextPc s : Nat) : Int) from nextPc_is s]
  have rd := hM3.creg i.rd b3
  have fd := hM3.fz (1 + i.rd)
  have f0 := hM3.fz 0
  have e1 : ((i.op : Int) == 1) = false := eqF (b := 1) (by omega)
  have e2 : ((i.op : Int) == 2) = false := eqF (b := 2) (by omega)
  have e3 : ((i.op : Int) == 3) = false := eqF (b := 3) (by omega)
  have e4 : ((i.op : Int) == 4) = false := eqF (b := 4) (by omega)
  have e10 : decide ((i.op : Int) ≤ 10) = false := decide_eq_false (by omega)
  have e17 : decide ((i.op : Int) ≤ 17) = false := decide_eq_false (by omega)
  have e21 : decide ((i.op : Int) ≤ 21) = true := decide_eq_true (by omega)
  go_upto_region 28 with fail
  obtain ⟨at_, hat⟩ : ∃ n, n = (s.c.reg i.rs1 + wrN i.imm) % 18446744073709551616 := ⟨_, rfl⟩
  have hal : at_ < 18446744073709551616 := by rw [hat]; exact mod64_lt _
  obtain ⟨n, hn⟩ : ∃ n : Int, n = ((2 ^ (i.op - 18) : Nat) : Int) := ⟨_, rfl⟩
  have hn2 : (2 : Nat) ^ (i.op - 18) ≤ 8 := Nat.pow_le_pow_right (by decide) (show i.op - 18 ≤ 3 by omega)
  have hsh : ∀ W : World, (Op.shift .shl .i64 1 .i64 (IntKind.i64.wrap ((i.op : Int) - 18))).run Tryd.prog W = .ok (.int .i64 n) W := fun W => by
    rw [run_shl .i64 .i64 1 (IntKind.i64.wrap ((i.op : Int) - 18)) (i.op - 18) (by rw [IntKind.wrap_i64]; omega) (show i.op - 18 < 64 by omega) W, hn, Int.one_mul, pow_int, IntKind.wrap_i64]
    generalize (2 : Nat) ^ (i.op - 18) = q at hn2 ⊢
    rw [show ((q : Int) + 9223372036854775808) % 18446744073709551616 - 9223372036854775808 = (q : Int) by omega]
  have hE : execM i s = (if storeE s.fs at_ n = 0 then (0, { s with c := { s.c with pc := nextPc s }, fs := storeM s.fs at_ (s.c.reg i.rs2) n }) else (33, s)) := by unfold execM; rw [if_neg (by omega), if_neg (by omega), if_neg (by omega), if_neg (by omega), if_neg (by omega), if_neg (by omega), if_pos (by omega), ← hat, ← hn]
  have hadd := add_is (s.c.reg i.rs1) (wrN i.imm)
  rw [← hat] at hadd
  have HA := Lib.hid hadd
  clear hadd hat hn2 hn
  have c39 := hM3.cmem
  have hMd : MachAt (w3.drewN (nq + 1)) m p mb ov iv s := hM3.below (bdrewN (Below.refl _ _) _)
  have hvl := hM3.small i.rs2
  have hSt : ∀ W : World, MemAt W p mb s.fs → Calls Tryd.prog 97 #[.pointer (some ⟨p, 0, none⟩), .int .u64 at_, .int .i64 n, .int .u64 (s.c.reg i.rs2 : Nat)] W fun e w' =>
      e = .returned (.int .i64 (storeE s.fs at_ n)) ∧ MemAt w' p mb (storeM s.fs at_ (s.c.reg i.rs2) n) ∧ KeptBut (fun b => b ∈ s.fs.map (·.blk)) W w' := fun W h => Store_all W p mb s.fs h at_ (s.c.reg i.rs2) n hal hvl
  obtain ⟨fs', hfs⟩ : ∃ fs', fs' = storeM s.fs at_ (s.c.reg i.rs2) n := ⟨_, rfl⟩
  have hbl : fs'.map (·.blk) = s.fs.map (·.blk) := by rw [hfs]; exact storeM_blk _ _ _ _
  obtain ⟨z, hz⟩ : ∃ z, z = storeE s.fs at_ n := ⟨_, rfl⟩
  rw [← hz, ← hfs] at hSt hE
  have HF := Lib.hid (show z ≠ 0 → fs' = s.fs from fun h => by rw [hfs]; unfold storeM; rw [if_neg (by rw [← hz]; exact h)])
  have HS := Lib.hid hSt
  have HB := Lib.hid hbl
  clear hSt hfs hbl hz
  by_cases h0 : z = 0
  · subst h0
    rw [if_pos rfl] at hE
    have HE := Lib.hid hE
    clear hE
    go_region_law (first | (go_simp; rw [HA.out]; go_at_call 97; refine Calls.mono (HS.out _ hMd.mem) ?_; rintro e w4 ⟨rfl, hm4, hk4⟩))
    all_goals
      have hM4 := hMd.store hm4 hk4 HB.out
      have c4 := hM4.cpc
      have f4 := hM4.fz 0
      go_wp2
      go_ret
      refine ⟨by rw [HE.out]; rfl, ov, ?_, (((KeptBut.of_below (bdrewN hB _)).trans (hk4.mono fun k h => .inr (.inl h))).setCell _ (.inl rfl) _), fun g h => .inl h⟩
      rw [HE.out]
      exact hM4.putPc (nextPc s) (nextPc_lt s)
  · rw [if_neg h0] at hE
    have HE := Lib.hid hE
    clear hE
    have tz : (z != 0) = true := by simp [h0]
    go_region_law (first | (go_simp; rw [HA.out]; go_at_call 97; refine Calls.mono (HS.out _ hMd.mem) ?_; rintro e w4 ⟨rfl, hm4, hk4⟩))
    all_goals
      have hM4 := hMd.store hm4 hk4 HB.out
      rw [HF.out h0] at hM4
      go_wp2
      go_ret
      refine ⟨by rw [HE.out]; rfl, ov, ?_, ((KeptBut.of_below (bdrewN hB _)).trans (hk4.mono fun k h => .inr (.inl h))), fun g h => .inl h⟩
      rw [HE.out]
      exact hM4
end Go.Proofs
