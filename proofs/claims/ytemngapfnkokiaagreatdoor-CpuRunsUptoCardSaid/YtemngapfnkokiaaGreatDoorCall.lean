/- (*cpu.Machine).call: an ecall. -/
import Derived.Test.YtemngapfnkokiaaGreatDoorMachC
import Derived.Deep.RegionLaw
import Derived.Test.YtemngapfnkokiaaGreatDoorBufs
namespace Go.Proofs
open Go Go.RowKit Go.Pat
def CallTo (m p mb : Nat) (ov iv : Value) (s : Ms) (w : World) (e : Ending) (w' : World) : Prop :=
  e = .returned (.int .i64 (callM s).1) ∧ ∃ ov', MachAt w' m p mb ov' iv (callM s).2 ∧ KeptBut (mine m s.fs ov) w w' ∧ (∀ g, ov'.ownBlock = some g → ov.ownBlock = some g ∨ w.heap.size ≤ g) ∧ ((callM s).1 ≠ 0 → (callM s).2 = s)
theorem and255 (b : Nat) (hb : b < 18446744073709551616) : bits .and .u64 (b : Int) 255 = ((b % 256 : Nat) : Int) := by
  have h := bits_and_u64_nat b 255 hb (by omega)
  have e : b &&& 255 = b % 256 := Nat.and_two_pow_sub_one_eq_mod b 8
  rw [e] at h
  exact h
set_option maxHeartbeats 4000000 in
theorem call_exit (w : World) (m p mb : Nat) (ov iv : Value) (s : Ms) (hM : MachAt w m p mb ov iv s) (h : s.c.reg 17 = 93) :
    Calls Tryz.prog 51 #[.pointer (some ⟨m, 0, none⟩)] w (CallTo m p mb ov iv s w) := by
  have HE := Lib.hid (show callM s = (0, { s with c := { s.c with halted := true, code := ((s.c.reg 10 % 256 : Nat) : Int) } }) by unfold callM; rw [if_neg (by omega), if_neg (by omega), if_pos h])
  have r17 := hM.creg 17 (by decide)
  rw [h] at r17
  have r10 := hM.creg 10 (by decide)
  have q3 := hM.chalted
  have q4 := hM.ccode
  have f3 := hM.fz 34
  have f4 := hM.fz 35
  have HA := Lib.hid (and255 _ (hM.small 10))
  clear h
  go_enter Tryz.func51, Tryz.ntmps51
  go_wp2
  go_ret
  rw [show wrap64 (bits BinOp.and IntKind.u64 ((s.c.reg 10 : Nat) : Int) 255) = ((s.c.reg 10 % 256 : Nat) : Int) by rw [HA.out, wrap64]; omega]
  refine ⟨by rw [HE.out]; rfl, ov, ?_, ((KeptBut.refl _ _).setCell _ (.inl rfl) _).setCell _ (.inl rfl) _, fun g h => .inl h, fun h => absurd (by rw [HE.out]) h⟩
  rw [HE.out]
  exact (hM.putHalted true).putCode _
set_option maxHeartbeats 4000000 in
theorem call_other (w : World) (m p mb : Nat) (ov iv : Value) (s : Ms) (hM : MachAt w m p mb ov iv s) (h1 : s.c.reg 17 ≠ 63) (h2 : s.c.reg 17 ≠ 64) (h3 : s.c.reg 17 ≠ 93) :
    Calls Tryz.prog 51 #[.pointer (some ⟨m, 0, none⟩)] w (CallTo m p mb ov iv s w) := by
  have HE := Lib.hid (show callM s = (34, s) by unfold callM; rw [if_neg h1, if_neg h2, if_neg h3])
  have r17 := hM.creg 17 (by decide)
  have e1 : (((s.c.reg 17 : Nat) : Int) == 63) = false := eqF (b := 63) h1
  have e2 : (((s.c.reg 17 : Nat) : Int) == 64) = false := eqF (b := 64) h2
  have e3 : (((s.c.reg 17 : Nat) : Int) == 93) = false := eqF (b := 93) h3
  clear h1 h2 h3
  go_enter Tryz.func51, Tryz.ntmps51
  go_wp2
  go_ret
  refine ⟨by rw [HE.out]; rfl, ov, ?_, KeptBut.refl _ _, fun g h => .inl h, fun _ => by rw [HE.out]⟩
  rw [HE.out]
  exact hM
set_option maxHeartbeats 4000000 in
theorem call_end (w : World) (m p mb : Nat) (ov iv : Value) (s : Ms) (hM : MachAt w m p mb ov iv s) (h : s.c.reg 17 = 63) (hlt : ¬ s.c.inn < s.inp.length) :
    Calls Tryz.prog 51 #[.pointer (some ⟨m, 0, none⟩)] w (CallTo m p mb ov iv s w) := by
  have HE := Lib.hid (show callM s = (0, { s with c := { s.c with regs := s.c.regs.set 10 18446744073709551615 } }) by unfold callM; rw [if_pos h, if_neg hlt])
  have r17 := hM.creg 17 (by decide)
  rw [h] at r17
  have r10 := hM.creg 10 (by decide)
  have f10 := hM.fz (1 + 10)
  have q38 := hM.cin
  have q40 := hM.cinp
  obtain ⟨A, c, rfl, _⟩ := hM.inn.form
  have td : decide (s.c.inn < (s.inp.length : Int)) = false := decide_eq_false hlt
  clear h hlt
  go_enter Tryz.func51, Tryz.ntmps51
  go_wp2_with fail
  have k38 : (w.setCell ⟨m, 1 + 10, none⟩ (.int .u64 18446744073709551615)).cell? ⟨m, 38, none⟩ = some (.int .i64 s.c.inn) := (hM.putReg 10 18446744073709551615 (by decide) (by decide)).cin
  have k40 := (hM.putReg 10 18446744073709551615 (by decide) (by decide)).cinp
  go_quiet (fail)
  go_wp2
  go_ret
  refine ⟨by rw [HE.out]; rfl, ov, ?_, ?_, fun g h => .inl h, fun h => absurd (by rw [HE.out]) h⟩
  · rw [HE.out]
    exact (hM.putReg 10 18446744073709551615 (by decide) (by decide)).below (bdrewN (Below.refl _ _) _)
  · exact ((KeptBut.refl _ _).setCell _ (.inl rfl) _).trans (.of_below (bdrewN (Below.refl _ _) _))
set_option maxHeartbeats 4000000 in
theorem call_read (w : World) (m p mb : Nat) (ov iv : Value) (s : Ms) (hM : MachAt w m p mb ov iv s) (h : s.c.reg 17 = 63) (hlt : s.c.inn < s.inp.length) :
    Calls Tryz.prog 51 #[.pointer (some ⟨m, 0, none⟩)] w (CallTo m p mb ov iv s w) := by
  obtain ⟨k, hk⟩ : ∃ k : Nat, s.c.inn = (k : Int) := ⟨s.c.inn.toNat, by have := hM.rng; omega⟩
  have hkl : k < s.inp.length := by omega
  obtain ⟨v, hv⟩ : ∃ v : Nat, v = (s.inp.getD k 0).toNat := ⟨_, rfl⟩
  have hvl : v < 256 := by rw [hv]; exact (s.inp.getD k 0).toNat_lt
  have HE := Lib.hid (show callM s = (0, { s with c := { s.c with regs := s.c.regs.set 10 v, inn := (k : Int) + 1 } }) by unfold callM; rw [if_pos h, if_pos hlt, hk, hv]; rfl)
  have r17 := hM.creg 17 (by decide)
  rw [h] at r17
  have r10 := hM.creg 10 (by decide)
  have f10 := hM.fz (1 + 10)
  have f38 := hM.fz 38
  have q38 := hM.cin
  rw [hk] at q38
  have q40 := hM.cinp
  obtain ⟨A, c, rfl, hbs⟩ := hM.inn.form
  obtain ⟨b, o, rfl, hb, hcell⟩ := hbs.at_ k hkl
  have hgv : (s.inp[k]).toNat = v := by rw [hv, List.getD_eq_getElem?_getD, List.getElem?_eq_getElem hkl]; rfl
  rw [hgv] at hcell
  have hbig : s.inp.length ≤ 9223372036854775807 := by
    rcases hM.inn.2 with ⟨_, h0⟩ | ⟨_, cap, _, _, _, _, h1, h2, _⟩
    · omega
    · simp only [maxLen] at h2; omega
  obtain ⟨N, hN⟩ : ∃ N, N = s.inp.length := ⟨_, rfl⟩
  rw [← hN] at q40
  have td : decide ((k : Int) < (N : Int)) = true := decide_eq_true (by omega)
  have hkN : (k : Int) < (N : Int) := by omega
  clear h hlt hv hgv
  go_enter Tryz.func51, Tryz.ntmps51
  go_wp2_with fail
  obtain ⟨W1, hW1⟩ : ∃ W1 : World, W1 = w.setCell ⟨m, 11, none⟩ (.int .u64 18446744073709551615) := ⟨_, rfl⟩
  have hM1 : MachAt W1 m p mb ov (.slice (some ⟨b, o, none⟩) N c) { s with c := { s.c with regs := s.c.regs.set 10 18446744073709551615 } } := by
    rw [hW1, hN]; exact hM.putReg 10 18446744073709551615 (by decide) (by decide)
  have hK1 : KeptBut (mine m s.fs ov) w W1 := by rw [hW1]; exact (KeptBut.refl _ _).setCell _ (.inl rfl) _
  have hc1 : W1.cell? ⟨b, o + k, none⟩ = some (.int .u8 (v : Int)) := by
    obtain ⟨_, cur, hcur⟩ := hM.inn.block (g := b) rfl
    rw [hW1]
    exact (World.cell?_of_block (keep_set w m 11 _ b (mach_ne_u8 hM hcur))).trans hcell
  have p38 : W1.cell? ⟨m, 38, none⟩ = some (.int .i64 (k : Int)) := by have := hM1.cin; rw [hk] at this; exact this
  have p40 := hM1.cinp
  have p10 := hM1.creg 10 (by decide)
  have g10 := hM1.fz (1 + 10)
  have g38 := hM1.fz 38
  rw [← hW1]
  clear hW1 r17 r10 f10 f38 q38 q40 hcell
  go_quiet (fail)
  go_wp2_with fail
  go_region
  all_goals
    go_wp2
    go_ret
    try rw [show wrap64 ((k : Int) + 1) = (k : Int) + 1 by rw [wrap64]; omega]
    refine ⟨by rw [HE.out]; rfl, ov, ?_, ?_, fun g h => .inl h, fun h => absurd (by rw [HE.out]) h⟩
    · rw [HE.out]
      have h2 := ((hM1.below (bdrewN (Below.refl _ _) (nq + 1))).putReg 10 v (by decide) (by omega)).putIn ((k : Int) + 1) (show 0 ≤ (k : Int) + 1 ∧ (k : Int) + 1 ≤ s.inp.length by omega)
      simp only [List.set_set] at h2
      rw [hN] at h2
      exact h2
    · exact (((hK1.trans (.of_below (bdrewN (Below.refl _ _) (nq + 1)))).setCell _ (.inl rfl) _).setCell _ (.inl rfl) _)
theorem MachAt.append {w w4 : World} {m p mb : Nat} {ov iv v' : Value} {s : Ms} {c : UInt8} (h : MachAt w m p mb ov iv s) (h1 : w4.ownsRow 0 5 1 v' (s.c.out.length + 1) (bcells s.c.out ++ bcells [c])) (hg : w.grownBy w4 ov.ownBlock)
    (hat : v'.ownBlock = ov.ownBlock ∨ v'.ownBlock = some w.heap.size) : MachAt (w4.setCell ⟨m, 37, none⟩ v') m p mb v' iv { s with c := { s.c with out := s.c.out ++ [c] } } := by
  have hne : ∀ g, ov.ownBlock = some g → g ≠ m ∧ g ≠ p ∧ g ≠ mb := fun g e => by
    obtain ⟨_, cur, hc⟩ := h.out.block e
    exact ⟨mach_ne_u8 h hc, by rintro rfl; have := h.mem.str.symm.trans hc; simp at this, by rintro rfl; have := h.mem.map.symm.trans hc; simp at this⟩
  have hk : ∀ k, k < w.heap.size → ov.ownBlock ≠ some k → k ≠ m → (w4.setCell ⟨m, 37, none⟩ v').heap[k]? = w.heap[k]? := fun k h1 h2 h3 => (keep_set w4 m 37 v' k h3).trans (hg.block k h1 (fun e => h2 e.symm))
  have hmk : w4.heap[m]? = some (.cells (mcells s.c ov (.pointer (some ⟨p, 0, none⟩)) iv).toArray 51 (0, 0)) := (hg.block m h.lt (fun e => (hne m e.symm).1 rfl)).trans h.cells
  have e1 : p ≠ m := by rintro rfl; have := h.cells.symm.trans h.mem.str; simp at this
  have e2 : mb ≠ m := by rintro rfl; have := h.cells.symm.trans h.mem.map; simp at this
  have hvm : ∀ g, v'.ownBlock = some g → g ≠ m := fun g hv => by
    rcases hat with e | e
    · exact (hne g (e ▸ hv)).1
    · rw [e] at hv; have := h.lt; obtain rfl := Option.some.inj hv; omega
  refine ⟨?_, h.mem.keep (hk _ (lt_of_block h.mem.str) (fun e => (hne p e).2.1 rfl) e1) (hk _ (lt_of_block h.mem.map) (fun e => (hne mb e).2.2 rfl) e2) (fun f hf => ?_), h.len, h.small, h.pc, ?_, ?_, h.rng, ?_, ?_⟩
  · rw [obj_set hmk 37 v', List.setIfInBounds_toArray, mset_out h.len v' (s.c.out ++ [c])]
  · obtain ⟨_, _, _, cur, hcur, _⟩ := h.mem.pages f hf
    exact hk _ (lt_of_block hcur) (fun e => h.apO _ e (List.mem_map.2 ⟨f, hf, rfl⟩)) (mach_ne_u8 h hcur)
  · have h2 : OwnB w4 0 v' (s.c.out ++ [c]) := by
      unfold OwnB
      rw [List.length_append, bcells_append]
      exact h1
    exact h2.keep fun g hv => keep_set w4 m 37 v' g (hvm g hv)
  · exact h.inn.keep fun g hv => by
      obtain ⟨_, cur, hc⟩ := h.inn.block hv
      exact hk _ (lt_of_block hc) (h.apI g hv).2 (mach_ne_u8 h hc)
  · intro g hv hm
    rcases hat with e | e
    · exact h.apO g (e ▸ hv) hm
    · rw [e] at hv
      obtain rfl := Option.some.inj hv
      obtain ⟨f, hf, e3⟩ := List.mem_map.1 hm
      obtain ⟨_, _, _, cur, hcur, _⟩ := h.mem.pages f hf
      have := lt_of_block hcur
      omega
  · intro g hv
    refine ⟨(h.apI g hv).1, fun e3 => ?_⟩
    rcases hat with e | e
    · exact (h.apI g hv).2 (e ▸ e3)
    · rw [e] at e3
      obtain rfl := Option.some.inj e3
      obtain ⟨_, cur, hc⟩ := h.inn.block hv
      have := lt_of_block hc
      omega
set_option maxRecDepth 20000 in
set_option maxHeartbeats 8000000 in
theorem call_put (w : World) (m p mb : Nat) (ov iv : Value) (s : Ms) (hM : MachAt w m p mb ov iv s) (h : s.c.reg 17 = 64) (hroom : s.c.out.length + 1 ≤ 140737488355328) :
    Calls Tryz.prog 51 #[.pointer (some ⟨m, 0, none⟩)] w (CallTo m p mb ov iv s w) := by
  obtain ⟨c, hc⟩ : ∃ c : UInt8, c = UInt8.ofNat (s.c.reg 10) := ⟨_, rfl⟩
  have hcv : IntKind.u8.wrap ((s.c.reg 10 : Nat) : Int) = (c.toNat : Int) := by rw [IntKind.wrap_u8, hc, UInt8.toNat_ofNat']; omega
  have HE := Lib.hid (show callM s = (0, { s with c := { s.c with out := s.c.out ++ [c] } }) by unfold callM; rw [if_neg (by omega), if_pos h, hc])
  have HC := Lib.hid hcv
  clear hc hcv
  have r17 := hM.creg 17 (by decide)
  rw [h] at r17
  have r10 := hM.creg 10 (by decide)
  have q37 := hM.cout
  have f37 := hM.fz 37
  clear h
  go_enter Tryz.func51, Tryz.ntmps51
  go_wp2_with fail
  have hal : Below w.heap.size w (w.alloc (.cells #[.int .u8 (IntKind.u8.wrap ((s.c.reg 10 : Nat) : Int))] 5)).drew := ((Below.refl _ _).alloc (Nat.le_refl _) _).drew
  have hMa := hM.below hal
  have hsz : (w.alloc (.cells #[.int .u8 (IntKind.u8.wrap ((s.c.reg 10 : Nat) : Int))] 5)).drew.heap.size = w.heap.size + 1 := World.size_alloc _ _
  have hli := (lit_bs w _ c 5 HC.out).below (Below.refl _ _).drew
  have jA : ∀ o, (w.alloc o).cell? ⟨m, 37, none⟩ = some ov := fun o => (World.cell?_alloc_lt w _ ⟨m, 37, none⟩ hM.lt).trans q37
  have jF : ∀ o, (w.alloc o).frozen? ⟨m, 37, none⟩ = false := fun o => (hM.below ((Below.refl _ _).alloc (Nat.le_refl _) o)).fz 37
  go_region_law (first
    | (refine step_app rfl (.tmp 60) (.tmp 68) 25 rfl Tryz_elU8 0 ov s.c.out.length (bcells s.c.out) (by exact rfl) hMa.out _ (some ⟨w.heap.size, 0, none⟩) 1 1 (bcells [c]) (by exact rfl) rfl hli (bcells_one _) (by simp only [maxLen]; omega) (by omega) (Nat.zero_le _) ?_
       intro v' w4 h1 hg hnil hat
       have hmk : w4.heap[m]? = _ := (hg.block m (by rw [hsz]; have := hM.lt; omega) (fun e => by obtain ⟨_, cur, hcu⟩ := hMa.out.block e.symm; exact mach_ne_u8 hMa hcu rfl)).trans hMa.cells
       have k37 : w4.cell? ⟨m, 37, none⟩ = some ov := (obj_cell hmk 37).trans ((obj_cell hMa.cells 37).symm.trans hMa.cout)
       have g37 := obj_frozen hmk 37
       have h2 : OwnB w4 0 v' (s.c.out ++ [c]) := by
         unfold OwnB
         rw [List.length_append, bcells_append]
         exact h1
       obtain ⟨A3, c3, rfl, _⟩ := h2.form))
  all_goals
    go_wp2
    go_ret
    have hll : (s.c.out ++ [c]).length = s.c.out.length + 1 := by simp
    rw [hll] at h1 hat
    refine ⟨by rw [HE.out]; rfl, .slice A3 (s.c.out.length + 1 : Nat) c3, ?_, ?_, fun g h => ?_, fun h => absurd (by rw [HE.out]) h⟩
    · rw [HE.out]
      exact hMa.append h1 hg hat
    · refine KeptBut.setCell (KeptBut.trans (.of_below hal) ⟨hg.os, hg.tape, hg.output, hg.size, fun k hk hn => hg.block k hk (fun e => hn (.inr (.inr e.symm)))⟩) _ (.inl rfl) _
    · rcases hat with e | e
      · exact .inl (e ▸ h)
      · rw [e, hsz] at h
        obtain rfl := Option.some.inj h
        exact .inr (Nat.le_succ _)
/-- an ecall, whatever it asks for. -/
theorem call_any (w : World) (m p mb : Nat) (ov iv : Value) (s : Ms) (hM : MachAt w m p mb ov iv s) (hroom : s.c.out.length + 1 ≤ 140737488355328) :
    Calls Tryz.prog 51 #[.pointer (some ⟨m, 0, none⟩)] w (CallTo m p mb ov iv s w) := by
  by_cases h1 : s.c.reg 17 = 63
  · by_cases h : s.c.inn < s.inp.length
    · exact call_read w m p mb ov iv s hM h1 h
    · exact call_end w m p mb ov iv s hM h1 h
  · by_cases h2 : s.c.reg 17 = 64
    · exact call_put w m p mb ov iv s hM h2 hroom
    · by_cases h3 : s.c.reg 17 = 93
      · exact call_exit w m p mb ov iv s hM h3
      · exact call_other w m p mb ov iv s hM h1 h2 h3
end Go.Proofs
