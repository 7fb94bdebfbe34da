/- The reference machine (patinaref03): a step. -/
import Derived.Test.YtemngapfnkokiaaGreatDoorRefC
import Derived.Test.YtemngapfnkokiaaGreatDoorWords
import Derived.Test.YtemngapfnkokiaaGreatDoorRuns
import Derived.Test.YtemngapfnkokiaaGreatDoorAlus
import Derived.Test.YtemngapfnkokiaaGreatDoorMachC
import Derived.BigQuiet
import Derived.Deep.RegionLaw
namespace Go.Pat
open Go Go.RowKit
theorem set_same (l : List Nat) (k : Nat) : l.set k (l.getD k 0) = l := by
  apply List.ext_getElem
  · simp
  · intro j h1 h2
    by_cases e : k = j
    · subst e
      have h3 : k < l.length := by simpa using h1
      simp [List.getD_eq_getElem?_getD, List.getElem?_eq_getElem h3]
    · simp [List.getElem_set_ne e]
/-- the state behind a step that ends well. -/
def finR (c : Mc) (rd r pc : Nat) : Mc := { c with regs := if rd = 0 then c.regs else c.regs.set rd r, pc := pc, steps := IntKind.i64.wrap (c.steps + 1) }
theorem finR_put (c : Mc) (rd r pc : Nat) (h0 : c.reg 0 = 0) :
    ({ (c.put rd r pc) with regs := (c.put rd r pc).regs.set 0 0, steps := IntKind.i64.wrap ((c.put rd r pc).steps + 1) } : Mc) = finR c rd r pc := by
  unfold finR Mc.put
  have h00 : c.regs.set 0 0 = c.regs := by
    have := set_same c.regs 0
    unfold Mc.reg at h0
    rw [h0] at this
    exact this
  by_cases hr : rd = 0
  · subst hr
    simp only [if_true, List.set_set, h00]
  · have h1 : (c.regs.set rd r).set 0 0 = c.regs.set rd r := by
      rw [List.set_comm _ _ hr, h00]
    simp only [if_neg hr, h1]
theorem finR_same (c : Mc) (rd pc : Nat) (h0 : c.reg 0 = 0) :
    ({ c with regs := c.regs.set 0 0, pc := pc, steps := IntKind.i64.wrap (c.steps + 1) } : Mc) = finR c rd (c.reg rd) pc := by
  unfold finR
  have h00 : c.regs.set 0 0 = c.regs := by
    have := set_same c.regs 0
    unfold Mc.reg at h0
    rw [h0] at this
    exact this
  have h1 : (if rd = 0 then c.regs else c.regs.set rd (c.reg rd)) = c.regs := by
    split
    · rfl
    · exact set_same c.regs rd
  rw [h00, h1]
theorem fetch_ok {fs : List Fr} {pc x : Nat} (h : fetchM fs pc = (x, 0)) : pc % 4 = 0 ∧ askedM fs pc 4 1 = 0 ∧ numM fs pc 4 = x := by
  unfold fetchM at h
  split at h
  · cases h
  · rename_i h1
    split at h
    · rename_i h2
      exact ⟨by omega, h2, (Prod.mk.inj h).1⟩
    · rename_i h2
      exact absurd (Prod.mk.inj h).2 h2
theorem fetch_no {fs : List Fr} {pc x : Nat} {z : Int} (h : fetchM fs pc = (x, z)) (hz : z ≠ 0) : pc % 4 ≠ 0 ∨ askedM fs pc 4 1 ≠ 0 := by
  by_cases h1 : pc % 4 = 0
  · refine .inr fun h2 => hz ?_
    have h3 := (Go.Proofs.asked_zero h2).2.1
    unfold fetchM at h
    rw [if_neg (by omega), if_pos h2] at h
    exact (Prod.mk.inj h).2.symm
  · exact .inl h1
end Go.Pat

/- (*patinaref03.Machine).Step: what it does is stepM. (Printed by wip/tools/gen_refw.py.) -/
namespace Go.Proofs
open Go Go.RowKit Go.Pat
/-- what a step leaves. -/
def RStepTo (m : Nat) (PA : Option Addr) (pc : Nat) (ov iv : Value) (s : Ms) (r : Int × Ms) (w : World) (e : Ending) (w' : World) : Prop :=
  e = .returned (.int .i64 r.1) ∧ ∃ ov', RefAt w' m PA pc ov' iv r.2 ∧ KeptBut (mine m s.fs ov) w w' ∧ ∀ g, ov'.ownBlock = some g → ov.ownBlock = some g ∨ w.heap.size ≤ g
theorem r1dec_st (w : World) (x : Nat) (hx : x < 4294967296) (i : Ins) (hi : decR x = some i) :
    Calls Tryz.prog 33 #[.int .u32 (x : Int)] w fun e w' => e = .returned (.tuple #[.agg #[.int .i64 (i.op : Int), .int .i64 (i.rd : Int), .int .i64 (i.rs1 : Int), .int .i64 (i.rs2 : Int), .int .i64 i.imm], .int .i64 0]) ∧ Below w.heap.size w w' := by
  have := r1Decode_any x hx w
  unfold decV at this
  rw [hi] at this
  exact this
theorem r1dec_none (w : World) (x : Nat) (hx : x < 4294967296) (hi : decR x = none) :
    Calls Tryz.prog 33 #[.int .u32 (x : Int)] w fun e w' => e = .returned (.tuple #[.agg #[.int .i64 0, .int .i64 0, .int .i64 0, .int .i64 0, .int .i64 0], .int .i64 10]) ∧ Below w.heap.size w w' := by
  have := r1Decode_any x hx w
  unfold decV at this
  rw [hi] at this
  exact this
theorem r3may_is (w : World) (m : Nat) (PA : Option Addr) (pc : Nat) (ov iv : Value) (s : Ms) (at_ n : Nat) (z perm : Int) (hz : z = (n : Int)) (b : Bool) (hb : decide (askedM s.fs at_ n perm = 0) = b) (hat : at_ < 18446744073709551616) (hn : n ≤ 8) (hp : perm = 1 ∨ perm = 2 ∨ perm = 4) (hM : RefAt w m PA pc ov iv s) :
    Calls Tryz.prog 31 #[.pointer (some ⟨m, 0, none⟩), .int .u64 (at_ : Int), .int .i64 z, .int .i64 perm] w fun e w' => e = .returned (.bool b) ∧ Below w.heap.size w w' := by
  subst hz hb
  exact r3may_any w m PA pc ov iv s hM at_ hat n hn perm hp
theorem r3load_is (w : World) (m : Nat) (PA : Option Addr) (pc : Nat) (ov iv : Value) (s : Ms) (at_ n x : Nat) (z perm : Int) (hz : z = (n : Int)) (hn : n ≤ 8) (h0 : askedM s.fs at_ n perm = 0) (hx : numM s.fs at_ n = x) (hM : RefAt w m PA pc ov iv s) :
    Calls Tryz.prog 34 #[.pointer (some ⟨m, 0, none⟩), .int .u64 (at_ : Int), .int .i64 z] w fun e w' => e = .returned (.int .u64 (x : Int)) ∧ Below w.heap.size w w' := by
  subst hz hx
  obtain ⟨h1, h2, h3⟩ := asked_zero h0
  exact r3load_any w m PA pc ov iv s hM at_ n h1 hn fun i hi => (h3 i hi).imp fun _ h => h.1
section
variable (w : World) (m : Nat) (PA : Option Addr) (pc : Nat) (ov iv : Value) (s : Ms)
set_option maxRecDepth 20000 in
set_option maxHeartbeats 8000000 in
theorem r3step_over (hM : RefAt w m PA pc ov iv s) (ho : overB s.c = true) :
    Calls Tryz.prog 20 #[.pointer (some ⟨m, 0, none⟩)] w (RStepTo m PA pc ov iv s (s.c.fault, s) w) := by
  have c34 := hM.chalted
  have c36 := hM.cfault
  have hml := hM.lt
  have HM := Lib.hid hM
  cases hh : s.c.halted
  · rw [hh] at c34
    have hf : (s.c.fault != 0) = true := by unfold overB at ho; rw [hh] at ho; simpa using ho
    clear ho hM hh
    go_enter Tryz.func20, Tryz.ntmps20
    go_wp2_with fail
    go_ret
    exact ⟨rfl, ov, HM.out, .refl _ _, fun g h => .inl h⟩
  · rw [hh] at c34
    clear ho hM hh
    go_enter Tryz.func20, Tryz.ntmps20
    go_wp2_with fail
    go_ret
    exact ⟨rfl, ov, HM.out, .refl _ _, fun g h => .inl h⟩
set_option maxRecDepth 20000 in
set_option maxHeartbeats 8000000 in
theorem r3step_nofetch (hM : RefAt w m PA pc ov iv s) (ho : overB s.c = false) (hf : s.c.pc % 4 ≠ 0 ∨ askedM s.fs s.c.pc 4 1 ≠ 0) :
    Calls Tryz.prog 20 #[.pointer (some ⟨m, 0, none⟩)] w (RStepTo m PA pc ov iv s (30, { s with c := { s.c with fault := 30 } }) w) := by
  have hh : s.c.halted = false ∧ s.c.fault = 0 := by unfold overB at ho; simpa using ho
  have c34 := hM.chalted
  have c36 := hM.cfault
  rw [hh.1] at c34
  rw [hh.2] at c36
  have c0 := hM.cpc
  have hml := hM.lt
  have hpc := hM.pc
  have hFt := fun W (hW : RefAt W m PA pc ov iv s) => r3fault_any W m PA pc ov iv s hW 30
  have HFt := Lib.hid hFt
  have HM := Lib.hid hM
  by_cases h4 : s.c.pc % 4 = 0
  · have t4 : ((s.c.pc : Int) % 4 != 0) = false := by simp; omega
    have HMay := Lib.hid (r3may_is w m PA pc ov iv s s.c.pc 4 4 1 rfl false (decide_eq_false (by rcases hf with h | h; exact absurd h4 h; exact h)) hpc (by decide) (.inl rfl) hM)
    clear hFt hM ho hh hf h4
    go_enter Tryz.func20, Tryz.ntmps20
    go_wp2_with (first
      | (go_at_call 31; with_reducible refine HMay.out.mono ?_; rintro e w1 ⟨rfl, hB1⟩; have hM1 := HM.out.below hB1; have a0 := hM1.cpc; have am := hM1.lt; have H1 := Lib.hid (And.intro hM1 hB1); clear hM1 hB1)
      | (go_at_call 32; (with_reducible refine (HFt.out _ H1.out.1).mono ?_); rintro e w5 ⟨rfl, rfl⟩))
    go_ret
    exact ⟨rfl, ov, H1.out.1.putFault 30, (KeptBut.of_below H1.out.2).setCell _ (.inl rfl) _, fun g h => .inl h⟩
  · have t4 : ((s.c.pc : Int) % 4 != 0) = true := by simp; omega
    clear hFt hM ho hh hf h4
    go_enter Tryz.func20, Tryz.ntmps20
    go_wp2_with (go_at_call 32; (with_reducible refine (HFt.out _ HM.out).mono ?_); rintro e w5 ⟨rfl, rfl⟩)
    go_ret
    exact ⟨rfl, ov, HM.out.putFault 30, (KeptBut.refl _ _).setCell _ (.inl rfl) _, fun g h => .inl h⟩
set_option maxRecDepth 20000 in
set_option maxHeartbeats 8000000 in
theorem r3step_noword (hM : RefAt w m PA pc ov iv s) (ho : overB s.c = false) (x : Nat) (hf : fetchM s.fs s.c.pc = (x, 0)) (hi : decR x = none) :
    Calls Tryz.prog 20 #[.pointer (some ⟨m, 0, none⟩)] w (RStepTo m PA pc ov iv s (31, { s with c := { s.c with fault := 31 } }) w) := by
  have hh : s.c.halted = false ∧ s.c.fault = 0 := by unfold overB at ho; simpa using ho
  have c34 := hM.chalted
  have c36 := hM.cfault
  rw [hh.1] at c34
  rw [hh.2] at c36
  have c0 := hM.cpc
  have hml := hM.lt
  have hpc := hM.pc
  obtain ⟨f4, f5, f6⟩ := fetch_ok hf
  have hx : x < 4294967296 := by have := fetchM_lt s.fs s.c.pc; rw [hf] at this; exact this
  have hx32 : IntKind.u32.wrap (x : Int) = (x : Int) := by rw [IntKind.wrap_u32]; omega
  have t4 : ((s.c.pc : Int) % 4 != 0) = false := by simp; omega
  have HMay := Lib.hid (r3may_is w m PA pc ov iv s s.c.pc 4 4 1 rfl true (decide_eq_true f5) hpc (by decide) (.inl rfl) hM)
  have HLd := Lib.hid (fun W (hW : RefAt W m PA pc ov iv s) => r3load_is W m PA pc ov iv s s.c.pc 4 x 4 1 rfl (by decide) f5 f6 hW)
  have HM := Lib.hid hM
  have HDc := Lib.hid (fun W => r1dec_none W x hx hi)
  have HFt := Lib.hid (fun W (hW : RefAt W m PA pc ov iv s) => r3fault_any W m PA pc ov iv s hW 31)
  clear hM ho hh hf f4 f5 f6 hi
  go_enter Tryz.func20, Tryz.ntmps20
  go_wp2_with (first
    | (go_at_call 31; with_reducible refine HMay.out.mono ?_; rintro e w1 ⟨rfl, hB1⟩; have hM1 := HM.out.below hB1; have a0 := hM1.cpc; have am := hM1.lt; have H1 := Lib.hid (And.intro hM1 hB1); clear hM1 hB1)
    | (go_at_call 34; with_reducible refine (HLd.out _ H1.out.1).mono ?_; rintro e w2 ⟨rfl, hB2⟩; have hB02 := H1.out.2.trans (hB2.mono H1.out.2.size); have hM2 := HM.out.below hB02; have b0 := hM2.cpc; have bm := hM2.lt; have H2 := Lib.hid (And.intro hM2 hB02); clear hM2 hB2 hB02)
    | (go_at_call 33; with_reducible refine (HDc.out _).mono ?_; rintro e w3 ⟨rfl, hB3⟩; have hB03 := H2.out.2.trans (hB3.mono H2.out.2.size); have hM3 := HM.out.below (hB03.alloc hB03.size (.cells #[.int .i64 0, .int .i64 0, .int .i64 0, .int .i64 0, .int .i64 0] 78)); have H3 := Lib.hid (And.intro hM3 (hB03.alloc hB03.size (.cells #[.int .i64 0, .int .i64 0, .int .i64 0, .int .i64 0, .int .i64 0] 78))); clear hB3 hB03 hM3)
    | (go_at_call 32; (with_reducible refine (HFt.out _ H3.out.1).mono ?_); rintro e w5 ⟨rfl, rfl⟩))
  go_ret
  exact ⟨rfl, ov, H3.out.1.putFault 31, (KeptBut.of_below H3.out.2).setCell _ (.inl rfl) _, fun g h => .inl h⟩
end
end Go.Proofs

/- The reference machine: what a step makes, from what its instruction makes. -/
namespace Go.Pat
open Go Go.RowKit Go.Proofs
theorem finR_0 {c : Mc} {rd r p : Nat} (h : rd = 0) : finR c rd r p = { c with pc := p, steps := wrap64 (c.steps + 1) } := by unfold finR; rw [if_pos h, IntKind.wrap_i64, wrap64]
theorem finR_n {c : Mc} {rd r p : Nat} (h : rd ≠ 0) : finR c rd r p = { c with regs := c.regs.set rd r, pc := p, steps := wrap64 (c.steps + 1) } := by unfold finR; rw [if_neg h, IntKind.wrap_i64, wrap64]
theorem stepM_put {s : Ms} {i : Ins} (ho : overB s.c = false) (h0 : s.c.reg 0 = 0) (hI : innerM s = execM i s) {r p : Nat} (hE : execM i s = (0, { s with c := s.c.put i.rd r p })) :
    stepM s = (0, { s with c := finR s.c i.rd r p }) := by
  unfold stepM
  rw [hI, hE, if_neg (by rw [ho]; decide), if_pos rfl, finR_put s.c i.rd r p h0]
theorem stepM_same {s : Ms} {i : Ins} (ho : overB s.c = false) (h0 : s.c.reg 0 = 0) (hI : innerM s = execM i s) {p : Nat} {fs' : List Fr} (hE : execM i s = (0, { s with c := { s.c with pc := p }, fs := fs' })) :
    stepM s = (0, { s with c := finR s.c i.rd (s.c.reg i.rd) p, fs := fs' }) := by
  have h := finR_same s.c i.rd p h0
  unfold stepM
  rw [hI, hE, if_neg (by rw [ho]; decide), if_pos rfl]
  simp only
  rw [h]
theorem stepM_bad {s : Ms} {i : Ins} (ho : overB s.c = false) (hI : innerM s = execM i s) {z : Int} (hz : z ≠ 0) (hE : execM i s = (z, s)) :
    stepM s = (z, { s with c := { s.c with fault := z } }) := by
  unfold stepM
  rw [hI, hE, if_neg (by rw [ho]; decide), if_neg hz]
theorem loadM_op (fs : List Fr) (a op : Nat) (h : 11 ≤ op ∧ op ≤ 17) : loadM fs a (ldN op) = if askedM fs a (widN op) 4 = 0 then (numM fs a (widN op), 0) else (0, askedM fs a (widN op) 4) := by
  rcases (show op = 11 ∨ op = 12 ∨ op = 13 ∨ op = 14 ∨ op = 15 ∨ op = 16 ∨ op = 17 by omega) with rfl | rfl | rfl | rfl | rfl | rfl | rfl <;> rfl
theorem storeE_op (fs : List Fr) (a op : Nat) (h : 18 ≤ op ∧ op ≤ 21) : storeE fs a ((2 ^ (op - 18) : Nat) : Int) = askedM fs a (widN op) 2 := by
  rcases (show op = 18 ∨ op = 19 ∨ op = 20 ∨ op = 21 by omega) with rfl | rfl | rfl | rfl <;> rfl
theorem storeM_op (fs : List Fr) (a v op : Nat) (h : 18 ≤ op ∧ op ≤ 21) (h0 : askedM fs a (widN op) 2 = 0) : storeM fs a v ((2 ^ (op - 18) : Nat) : Int) = storeTo fs a v (widN op) := by
  unfold storeM
  rw [if_pos ((storeE_op fs a op h).trans h0)]
  rcases (show op = 18 ∨ op = 19 ∨ op = 20 ∨ op = 21 by omega) with rfl | rfl | rfl | rfl <;> rfl
theorem widN_le (op : Nat) (h : 11 ≤ op ∧ op ≤ 21) : widN op ≤ 8 := by
  rcases (show op = 11 ∨ op = 12 ∨ op = 13 ∨ op = 14 ∨ op = 15 ∨ op = 16 ∨ op = 17 ∨ op = 18 ∨ op = 19 ∨ op = 20 ∨ op = 21 by omega) with rfl | rfl | rfl | rfl | rfl | rfl | rfl | rfl | rfl | rfl | rfl <;> decide
theorem widN_ld (op : Nat) (h : op ≤ 17) : widN op = ldN op := by unfold widN; rw [if_neg (by omega)]
theorem callM_reg0 {s : Ms} (h0 : s.c.reg 0 = 0) : (callM s).2.c.reg 0 = 0 := by
  have hs : ∀ v, (s.c.regs.set 10 v).getD 0 0 = 0 := fun v => by
    rw [List.getD_eq_getElem?_getD, List.getElem?_set_ne (by decide), ← List.getD_eq_getElem?_getD]
    exact h0
  unfold callM
  split
  · split
    · exact hs _
    · exact hs _
  · split
    · exact h0
    · split
      · exact h0
      · exact h0
theorem stepM_call {s : Ms} {i : Ins} (ho : overB s.c = false) (h0 : s.c.reg 0 = 0) (hI : innerM s = execM i s) {p : Nat} (hE : execM i s = (0, { (callM s).2 with c := { (callM s).2.c with pc := p } })) :
    stepM s = (0, { (callM s).2 with c := finR (callM s).2.c 0 0 p }) := by
  have h := finR_same (callM s).2.c 0 p (callM_reg0 h0)
  have h2 : finR (callM s).2.c 0 ((callM s).2.c.reg 0) p = finR (callM s).2.c 0 0 p := by rw [callM_reg0 h0]
  rw [h2] at h
  unfold stepM
  rw [hI, hE, if_neg (by rw [ho]; decide), if_pos rfl]
  simp only
  rw [h]
theorem decR_rd64 {x : Nat} {i : Ins} (h : decR x = some i) (h64 : i.op = 64) : i.rd = 0 := by
  unfold decR at h
  obtain ⟨op, _, rfl⟩ := Option.map_eq_some_iff.1 h
  have : op = 64 := h64
  subst this
  show (if hasD (rvRow 64).1 then x / 128 % 32 else 0) = 0
  rw [if_neg (by decide)]
end Go.Pat
namespace Go.Proofs
open Go Go.RowKit Go.Pat
theorem RefAt.mine_lt {w : World} {m : Nat} {PA : Option Addr} {pc : Nat} {ov iv : Value} {s : Ms} (h : RefAt w m PA pc ov iv s) {k : Nat} (hk : mine m s.fs ov k) : k < w.heap.size := by
  rcases hk with rfl | hk | hk
  · exact h.lt
  · obtain ⟨f, hf, rfl⟩ := List.mem_map.1 hk
    obtain ⟨_, _, _, cur, hcur, _⟩ := h.pages f hf
    exact lt_of_block hcur
  · obtain ⟨_, cur, hc⟩ := h.out.block hk
    exact lt_of_block hc
end Go.Proofs
