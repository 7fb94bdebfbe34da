/- The reference machine (patinaref03): its cells are written; call. -/
import Derived.Test.YtemngapfnkokiaaGreatDoorRefA
import Derived.Test.YtemngapfnkokiaaGreatDoorCall
namespace Go.Proofs
open Go Go.RowKit Go.Pat
section
variable {w : World} {m : Nat} {PA : Option Addr} {pc : Nat} {ov iv : Value} {s : Ms}
theorem ref_ne {g : Nat} {cur : Array Value} {t : TypeId} (h : RefAt w m PA pc ov iv s) (hg : w.heap[g]? = some (.cells cur t (0, 0))) (ht : t ≠ 42) : g ≠ m := by
  rintro rfl
  obtain ⟨_, -, hc⟩ := h.cells
  have := hc.symm.trans hg
  simp only [Option.some.injEq, Obj.cells.injEq] at this
  exact ht this.2.1.symm
theorem RefAt.keptC (h : RefAt w m PA pc ov iv s) {w' : World} (hk : ∀ k, k < w.heap.size → k ≠ m → w'.heap[k]? = w.heap[k]?) (hsz : w.heap.size ≤ w'.heap.size) :
    Cs w'.heap.size w' PA (pcells (s.fs.map frP)) ∧ (∀ a, PA = some a → ∃ cur, w'.heap[a.block]? = some (.cells cur 54 (0, 0))) ∧ (∀ f ∈ s.fs, FrIn w' f) := by
  refine ⟨fun j hj => ?_, fun x hx => ?_, fun f hf => (h.pages f hf).keep ?_⟩
  · obtain ⟨b, o, rfl, hb, hx⟩ := h.row j hj
    obtain ⟨cur, hc⟩ := h.rowb _ rfl
    exact ⟨b, o, rfl, Nat.lt_of_lt_of_le hb hsz, (World.cell?_of_block (hk b hb (ref_ne h hc (by decide)))).trans hx⟩
  · obtain ⟨cur, hc⟩ := h.rowb x hx
    exact ⟨cur, (hk _ (lt_of_block hc) (ref_ne h hc (by decide))).trans hc⟩
  · obtain ⟨_, _, _, cur, hcur, _⟩ := h.pages f hf
    exact hk _ (lt_of_block hcur) (ref_ne h hcur (by decide))
theorem RefAt.put (h : RefAt w m PA pc ov iv s) (i : Nat) (v : Value) (c : Mc) (hc : ∀ oc, (mcells s.c oc (.slice PA s.fs.length pc) iv).set i v = mcells c oc (.slice PA s.fs.length pc) iv)
    (hl : c.regs.length = 32) (hs : ∀ i, c.reg i < 18446744073709551616) (hp : c.pc < 18446744073709551616) (ho : c.out = s.c.out) (hr : 0 ≤ c.inn ∧ c.inn ≤ s.inp.length) :
    RefAt (w.setCell ⟨m, i, none⟩ v) m PA pc ov iv { s with c := c } := by
  have hk : ∀ k, k ≠ m → (w.setCell ⟨m, i, none⟩ v).heap[k]? = w.heap[k]? := fun k hk => Below.heap_setCell w ⟨m, i, none⟩ v k hk
  have hsz : (w.setCell ⟨m, i, none⟩ v).heap.size = w.heap.size := by simp [World.setCell]
  obtain ⟨k1, k2, k3⟩ := h.keptC (w' := w.setCell ⟨m, i, none⟩ v) (fun k _ h2 => hk k h2) (Nat.le_of_eq hsz.symm)
  refine ⟨?_, k1, k2, k3, h.apart, h.keys, h.low, h.few, hl, hs, hp, ?_, ?_, hr, h.apO, h.apI⟩
  · obtain ⟨oc, hoc, hcc⟩ := h.cells
    have := obj_set hcc i v
    refine ⟨oc, by rw [ho]; exact hoc, ?_⟩
    rw [this, List.setIfInBounds_toArray, hc]
  · show OwnB _ 0 ov c.out
    rw [ho]
    exact h.out.keep fun g hg => hk _ (by obtain ⟨_, cur, hc⟩ := h.out.block hg; exact ref_ne h hc (by decide))
  · exact h.inn.keep fun g hg => hk _ (by obtain ⟨_, cur, hc⟩ := h.inn.block hg; exact ref_ne h hc (by decide))
theorem RefAt.putReg (h : RefAt w m PA pc ov iv s) (k v : Nat) (hk : k < 32) (hv : v < 18446744073709551616) : RefAt (w.setCell ⟨m, 1 + k, none⟩ (.int .u64 (v : Int))) m PA pc ov iv { s with c := { s.c with regs := s.c.regs.set k v } } :=
  h.put (1 + k) _ _ (fun _ => mset_reg h.len k hk v) (by simp [h.len]) (reg_set_small h.small k v hv) h.pc rfl h.rng
theorem RefAt.putPc (h : RefAt w m PA pc ov iv s) (v : Nat) (hv : v < 18446744073709551616) : RefAt (w.setCell ⟨m, 0, none⟩ (.int .u64 (v : Int))) m PA pc ov iv { s with c := { s.c with pc := v } } :=
  h.put 0 _ _ (fun _ => mset_pc v) h.len h.small hv rfl h.rng
theorem RefAt.putSteps (h : RefAt w m PA pc ov iv s) (v : Int) : RefAt (w.setCell ⟨m, 33, none⟩ (.int .i64 v)) m PA pc ov iv { s with c := { s.c with steps := v } } :=
  h.put 33 _ _ (fun _ => mset_steps h.len v) h.len h.small h.pc rfl h.rng
theorem RefAt.putHalted (h : RefAt w m PA pc ov iv s) (v : Bool) : RefAt (w.setCell ⟨m, 34, none⟩ (.bool v)) m PA pc ov iv { s with c := { s.c with halted := v } } :=
  h.put 34 _ _ (fun _ => mset_halted h.len v) h.len h.small h.pc rfl h.rng
theorem RefAt.putCode (h : RefAt w m PA pc ov iv s) (v : Int) : RefAt (w.setCell ⟨m, 35, none⟩ (.int .i64 v)) m PA pc ov iv { s with c := { s.c with code := v } } :=
  h.put 35 _ _ (fun _ => mset_code h.len v) h.len h.small h.pc rfl h.rng
theorem RefAt.putFault (h : RefAt w m PA pc ov iv s) (v : Int) : RefAt (w.setCell ⟨m, 36, none⟩ (.int .i64 v)) m PA pc ov iv { s with c := { s.c with fault := v } } :=
  h.put 36 _ _ (fun _ => mset_fault h.len v) h.len h.small h.pc rfl h.rng
theorem RefAt.putIn (h : RefAt w m PA pc ov iv s) (v : Int) (hv : 0 ≤ v ∧ v ≤ s.inp.length) : RefAt (w.setCell ⟨m, 38, none⟩ (.int .i64 v)) m PA pc ov iv { s with c := { s.c with inn := v } } :=
  h.put 38 _ _ (fun _ => mset_in h.len v) h.len h.small h.pc rfl hv
theorem RefAt.append {w4 : World} {v' : Value} {c : UInt8} (h : RefAt w m PA pc ov iv s) (h1 : w4.ownsRow 0 5 1 v' (s.c.out.length + 1) (bcells s.c.out ++ bcells [c])) (hg : w.grownBy w4 ov.ownBlock)
    (hat : v'.ownBlock = ov.ownBlock ∨ v'.ownBlock = some w.heap.size) : RefAt (w4.setCell ⟨m, 37, none⟩ v') m PA pc v' iv { s with c := { s.c with out := s.c.out ++ [c] } } := by
  have hne : ∀ g, ov.ownBlock = some g → g ≠ m := fun g e => by
    obtain ⟨_, cur, hc⟩ := h.out.block e
    exact ref_ne h hc (by decide)
  have hs4 : ∀ v, (w4.setCell ⟨m, 37, none⟩ v).heap.size = w4.heap.size := fun v => by simp [World.setCell]
  have hsc : ∀ k, k ≠ m → (w4.setCell ⟨m, 37, none⟩ v').heap[k]? = w4.heap[k]? := fun k hk => Below.heap_setCell w4 ⟨m, 37, none⟩ v' k hk
  have hk : ∀ k, k < w.heap.size → ov.ownBlock ≠ some k → k ≠ m → (w4.setCell ⟨m, 37, none⟩ v').heap[k]? = w.heap[k]? := fun k h1 h2 h3 => (hsc k h3).trans (hg.block k h1 (fun e => h2 e.symm))
  obtain ⟨oc, -, hoc⟩ := h.cells
  have hmk : w4.heap[m]? = some (.cells (mcells s.c oc (.slice PA s.fs.length pc) iv).toArray 42 (0, 0)) := (hg.block m h.lt (fun e => hne m e.symm rfl)).trans hoc
  have hvm : ∀ g, v'.ownBlock = some g → g ≠ m := fun g hv => by
    rcases hat with e | e
    · exact hne g (e ▸ hv)
    · rw [e] at hv; have := h.lt; obtain rfl := Option.some.inj hv; omega
  refine ⟨?_, fun j hj => ?_, fun x hx => ?_, fun f hf => (h.pages f hf).keep ?_, h.apart, h.keys, h.low, h.few, h.len, h.small, h.pc, ?_, ?_, h.rng, ?_, ?_⟩
  · refine ⟨v', .inl rfl, ?_⟩
    rw [obj_set hmk 37 v', List.setIfInBounds_toArray, mset_out h.len v' (s.c.out ++ [c])]
  · obtain ⟨b, o, rfl, hb, hx⟩ := h.row j hj
    obtain ⟨cur, hc⟩ := h.rowb _ rfl
    refine ⟨b, o, rfl, by rw [hs4]; exact Nat.lt_of_lt_of_le hb hg.size, (World.cell?_of_block (hk b hb (fun e => ?_) (ref_ne h hc (by decide)))).trans hx⟩
    obtain ⟨_, cur2, hc2⟩ := h.out.block e
    simp only at hc
    rw [hc] at hc2
    cases hc2
  · obtain ⟨cur, hc⟩ := h.rowb x hx
    refine ⟨cur, (hk _ (lt_of_block hc) (fun e => ?_) (ref_ne h hc (by decide))).trans hc⟩
    obtain ⟨_, cur2, hc2⟩ := h.out.block e
    rw [hc] at hc2
    cases hc2
  · obtain ⟨_, _, _, cur, hcur, _⟩ := h.pages f hf
    exact hk _ (lt_of_block hcur) (fun e => h.apO _ e (List.mem_map.2 ⟨f, hf, rfl⟩)) (ref_ne h hcur (by decide))
  · have h2 : OwnB w4 0 v' (s.c.out ++ [c]) := by
      unfold OwnB
      rw [List.length_append, bcells_append]
      exact h1
    exact h2.keep fun g hv => hsc g (hvm g hv)
  · exact h.inn.keep fun g hv => by
      obtain ⟨_, cur, hc⟩ := h.inn.block hv
      exact hk _ (lt_of_block hc) (h.apI g hv).2 (ref_ne h hc (by decide))
  · intro g hv hm
    rcases hat with e | e
    · exact h.apO g (e ▸ hv) hm
    · rw [e] at hv
      obtain rfl := Option.some.inj hv
      obtain ⟨f, hf, e3⟩ := List.mem_map.1 hm
      obtain ⟨_, _, _, cur, hcur, _⟩ := h.pages f hf
      have := lt_of_block hcur
      omega
  · intro g hv
    refine ⟨(h.apI g hv).1, fun e3 => ?_⟩
    rcases hat with e | e
    · exact (h.apI g hv).2 (e ▸ e3)
    · rw [e] at e3
      obtain rfl := Option.some.inj e3
      obtain ⟨_, cur, hc⟩ := h.inn.block hv
      have := lt_of_block hc
      omega
end
def RCallTo (m : Nat) (PA : Option Addr) (pc : Nat) (ov iv : Value) (s : Ms) (w : World) (e : Ending) (w' : World) : Prop :=
  e = .returned (.int .i64 (callM s).1) ∧ ∃ ov', RefAt w' m PA pc ov' iv (callM s).2 ∧ KeptBut (mine m s.fs ov) w w' ∧ (∀ g, ov'.ownBlock = some g → ov.ownBlock = some g ∨ w.heap.size ≤ g) ∧ ((callM s).1 ≠ 0 → (callM s).2 = s)
section
variable (w : World) (m : Nat) (PA : Option Addr) (pc : Nat) (ov iv : Value) (s : Ms)
set_option maxHeartbeats 4000000 in
theorem r3call_exit (hM : RefAt w m PA pc ov iv s) (h : s.c.reg 17 = 93) : Calls Tryz.prog 39 #[.pointer (some ⟨m, 0, none⟩)] w (RCallTo m PA pc ov iv s w) := by
  have HE := Lib.hid (show callM s = (0, { s with c := { s.c with halted := true, code := ((s.c.reg 10 % 256 : Nat) : Int) } }) by unfold callM; rw [if_neg (by omega), if_neg (by omega), if_pos h])
  have r17 := hM.creg 17 (by decide)
  rw [h] at r17
  have r10 := hM.creg 10 (by decide)
  have q3 := hM.chalted
  have q4 := hM.ccode
  have f3 := hM.fz 34
  have f4 := hM.fz 35
  have HA := Lib.hid (and255 _ (hM.small 10))
  clear h
  go_enter Tryz.func39, Tryz.ntmps39
  go_wp2
  go_ret
  rw [show wrap64 (bits BinOp.and IntKind.u64 ((s.c.reg 10 : Nat) : Int) 255) = ((s.c.reg 10 % 256 : Nat) : Int) by rw [HA.out, wrap64]; omega]
  refine ⟨by rw [HE.out]; rfl, ov, ?_, ((KeptBut.refl _ _).setCell _ (.inl rfl) _).setCell _ (.inl rfl) _, fun g h => .inl h, fun h => absurd (by rw [HE.out]) h⟩
  rw [HE.out]
  exact (hM.putHalted true).putCode _
set_option maxHeartbeats 4000000 in
theorem r3call_other (hM : RefAt w m PA pc ov iv s) (h1 : s.c.reg 17 ≠ 63) (h2 : s.c.reg 17 ≠ 64) (h3 : s.c.reg 17 ≠ 93) :
    Calls Tryz.prog 39 #[.pointer (some ⟨m, 0, none⟩)] w (RCallTo m PA pc ov iv s w) := by
  have HE := Lib.hid (show callM s = (34, s) by unfold callM; rw [if_neg h1, if_neg h2, if_neg h3])
  have r17 := hM.creg 17 (by decide)
  have e1 : (((s.c.reg 17 : Nat) : Int) == 63) = false := eqF (b := 63) h1
  have e2 : (((s.c.reg 17 : Nat) : Int) == 64) = false := eqF (b := 64) h2
  have e3 : (((s.c.reg 17 : Nat) : Int) == 93) = false := eqF (b := 93) h3
  clear h1 h2 h3
  go_enter Tryz.func39, Tryz.ntmps39
  go_wp2
  go_ret
  refine ⟨by rw [HE.out]; rfl, ov, ?_, KeptBut.refl _ _, fun g h => .inl h, fun _ => by rw [HE.out]⟩
  rw [HE.out]
  exact hM
set_option maxHeartbeats 4000000 in
theorem r3call_end (hM : RefAt w m PA pc ov iv s) (h : s.c.reg 17 = 63) (hlt : ¬ s.c.inn < s.inp.length) : Calls Tryz.prog 39 #[.pointer (some ⟨m, 0, none⟩)] w (RCallTo m PA pc ov iv s w) := by
  have HE := Lib.hid (show callM s = (0, { s with c := { s.c with regs := s.c.regs.set 10 18446744073709551615 } }) by unfold callM; rw [if_pos h, if_neg hlt])
  have r17 := hM.creg 17 (by decide)
  rw [h] at r17
  have r10 := hM.creg 10 (by decide)
  have f10 := hM.fz (1 + 10)
  have q38 := hM.cin
  have q40 := hM.cinp
  obtain ⟨A, c, rfl, _⟩ := hM.inn.form
  have td : decide (s.c.inn < (s.inp.length : Int)) = false := decide_eq_false hlt
  clear h hlt
  go_enter Tryz.func39, Tryz.ntmps39
  go_wp2_with fail
  go_quiet (fail)
  go_wp2
  go_ret
  refine ⟨by rw [HE.out]; rfl, ov, ?_, ?_, fun g h => .inl h, fun h => absurd (by rw [HE.out]) h⟩
  · rw [HE.out]
    exact (hM.below (bdrewN (Below.refl _ _) _)).putReg 10 18446744073709551615 (by decide) (by decide)
  · exact KeptBut.setCell (.of_below (bdrewN (Below.refl _ _) _)) _ (.inl rfl) _
set_option maxHeartbeats 4000000 in
theorem r3call_read (hM : RefAt w m PA pc ov iv s) (h : s.c.reg 17 = 63) (hlt : s.c.inn < s.inp.length) : Calls Tryz.prog 39 #[.pointer (some ⟨m, 0, none⟩)] w (RCallTo m PA pc ov iv s w) := by
  obtain ⟨k, hk⟩ : ∃ k : Nat, s.c.inn = (k : Int) := ⟨s.c.inn.toNat, by have := hM.rng; omega⟩
  have hkl : k < s.inp.length := by omega
  obtain ⟨v, hv⟩ : ∃ v : Nat, v = (s.inp.getD k 0).toNat := ⟨_, rfl⟩
  have hvl : v < 256 := by rw [hv]; exact (s.inp.getD k 0).toNat_lt
  have HE := Lib.hid (show callM s = (0, { s with c := { s.c with regs := s.c.regs.set 10 v, inn := (k : Int) + 1 } }) by unfold callM; rw [if_pos h, if_pos hlt, hk, hv]; rfl)
  have r17 := hM.creg 17 (by decide)
  rw [h] at r17
  have q38 := hM.cin
  rw [hk] at q38
  have q40 := hM.cinp
  obtain ⟨A, c, rfl, hbs⟩ := hM.inn.form
  obtain ⟨b, o, rfl, hb, hcell⟩ := hbs.at_ k hkl
  have hgv : (s.inp[k]).toNat = v := by rw [hv, List.getD_eq_getElem?_getD, List.getElem?_eq_getElem hkl]; rfl
  rw [hgv] at hcell
  have hbig : s.inp.length ≤ 9223372036854775807 := by
    rcases hM.inn.2 with ⟨_, h0⟩ | ⟨_, cap, _, _, _, _, h1, h2, _⟩
    · omega
    · simp only [maxLen] at h2; omega
  obtain ⟨N, hN⟩ : ∃ N, N = s.inp.length := ⟨_, rfl⟩
  rw [← hN] at q40
  have td : decide ((k : Int) < (N : Int)) = true := decide_eq_true (by omega)
  have hkN : (k : Int) < (N : Int) := by omega
  have hM1 : RefAt w m PA pc ov (.slice (some ⟨b, o, none⟩) N c) s := by rw [hN]; exact hM
  have r10 := hM1.creg 10 (by decide)
  have f10 := hM1.fz (1 + 10)
  have f38 := hM1.fz 38
  have hv64 : IntKind.u64.wrap (v : Int) = (v : Int) := by rw [IntKind.wrap_u64]; omega
  have hml := hM1.lt
  clear h hlt hv hgv
  go_enter Tryz.func39, Tryz.ntmps39
  go_wp2_with fail
  go_quiet (fail)
  go_wp2_with fail
  go_region
  all_goals
    have hd := hM1.below ((bdrewN (Below.refl w.heap.size w) (nq + 1)))
    have hd1 := hd.putReg 10 v (by decide) (by omega)
    have p38 := hd1.cin
    rw [show ({ s with c := { s.c with regs := s.c.regs.set 10 v } } : Ms).c.inn = (k : Int) from hk] at p38
    have g38 := hd1.fz 38
    go_wp2
    go_ret
    try rw [show wrap64 ((k : Int) + 1) = (k : Int) + 1 by rw [wrap64]; omega]
    refine ⟨by rw [HE.out]; rfl, ov, ?_, ?_, fun g h => .inl h, fun h => absurd (by rw [HE.out]) h⟩
    · rw [HE.out]
      have h2 := hd1.putIn ((k : Int) + 1) (show 0 ≤ (k : Int) + 1 ∧ (k : Int) + 1 ≤ s.inp.length by omega)
      rw [hN] at h2
      exact h2
    · exact (KeptBut.setCell (.of_below (bdrewN (Below.refl _ _) (nq + 1))) _ (.inl rfl) _).setCell _ (.inl rfl) _
set_option maxRecDepth 20000 in
set_option maxHeartbeats 8000000 in
theorem r3call_put (hM : RefAt w m PA pc ov iv s) (h : s.c.reg 17 = 64) (hroom : s.c.out.length + 1 ≤ 140737488355328) :
    Calls Tryz.prog 39 #[.pointer (some ⟨m, 0, none⟩)] w (RCallTo m PA pc ov iv s w) := by
  obtain ⟨c, hc⟩ : ∃ c : UInt8, c = UInt8.ofNat (s.c.reg 10) := ⟨_, rfl⟩
  have hcv : IntKind.u8.wrap ((s.c.reg 10 : Nat) : Int) = (c.toNat : Int) := by rw [IntKind.wrap_u8, hc, UInt8.toNat_ofNat']; omega
  have HE := Lib.hid (show callM s = (0, { s with c := { s.c with out := s.c.out ++ [c] } }) by unfold callM; rw [if_neg (by omega), if_pos h, hc])
  have HC := Lib.hid hcv
  clear hc hcv
  have r17 := hM.creg 17 (by decide)
  rw [h] at r17
  have r10 := hM.creg 10 (by decide)
  obtain ⟨oc, hoc, q37, hcm⟩ := hM.cout
  have f37 := hM.fz 37
  clear h
  go_enter Tryz.func39, Tryz.ntmps39
  go_wp2_with fail
  have hal : Below w.heap.size w (w.alloc (.cells #[.int .u8 (IntKind.u8.wrap ((s.c.reg 10 : Nat) : Int))] 5)).drew := ((Below.refl _ _).alloc (Nat.le_refl _) _).drew
  have hMa := hM.below hal
  have hca := (hal.block m hM.lt).trans hcm
  clear hcm
  have hsz : (w.alloc (.cells #[.int .u8 (IntKind.u8.wrap ((s.c.reg 10 : Nat) : Int))] 5)).drew.heap.size = w.heap.size + 1 := World.size_alloc _ _
  have hli := (lit_bs w _ c 5 HC.out).below (Below.refl _ _).drew
  have jA : ∀ o, (w.alloc o).cell? ⟨m, 37, none⟩ = some oc := fun o => (World.cell?_alloc_lt w _ ⟨m, 37, none⟩ hM.lt).trans q37
  have jF : ∀ o, (w.alloc o).frozen? ⟨m, 37, none⟩ = false := fun o => (hM.below ((Below.refl _ _).alloc (Nat.le_refl _) o)).fz 37
  go_region_law (first
    | (refine step_appSh rfl (.tmp 60) (.tmp 68) 25 rfl Tryz_elU8 0 oc ov s.c.out.length (bcells s.c.out) (by exact rfl) hoc hMa.out _ (some ⟨w.heap.size, 0, none⟩) 1 1 (bcells [c]) (by exact rfl) rfl hli (bcells_one _) (by decide) (by simp only [maxLen]; omega) (by omega) (Nat.zero_le _) ?_
       intro v' w4 h1 hg hnil hat
       have hmk := (hg.block m (by rw [hsz]; have := hM.lt; omega) (fun e => by obtain ⟨_, cur, hcu⟩ := hMa.out.block e.symm; exact ref_ne hMa hcu (by decide) rfl)).trans hca
       have k37 : w4.cell? ⟨m, 37, none⟩ = some oc := (obj_cell hmk 37).trans (by rw [List.getElem?_toArray]; exact mget_tail hM.len 4)
       have g37 := obj_frozen hmk 37
       have h2 : OwnB w4 0 v' (s.c.out ++ [c]) := by
         unfold OwnB
         rw [List.length_append, bcells_append]
         exact h1
       obtain ⟨A3, c3, rfl, _⟩ := h2.form))
  all_goals
    go_wp2
    go_ret
    have hll : (s.c.out ++ [c]).length = s.c.out.length + 1 := by simp
    rw [hll] at h1 hat
    refine ⟨by rw [HE.out]; rfl, .slice A3 (s.c.out.length + 1 : Nat) c3, ?_, ?_, fun g h => ?_, fun h => absurd (by rw [HE.out]) h⟩
    · rw [HE.out]
      exact hMa.append h1 hg hat
    · refine KeptBut.setCell (KeptBut.trans (.of_below hal) ⟨hg.os, hg.tape, hg.output, hg.size, fun k hk hn => hg.block k hk (fun e => hn (.inr (.inr e.symm)))⟩) _ (.inl rfl) _
    · rcases hat with e | e
      · exact .inl (e ▸ h)
      · rw [e, hsz] at h
        obtain rfl := Option.some.inj h
        exact .inr (Nat.le_succ _)
theorem r3call_any (hM : RefAt w m PA pc ov iv s) (hroom : s.c.out.length + 1 ≤ 140737488355328) :
    Calls Tryz.prog 39 #[.pointer (some ⟨m, 0, none⟩)] w (RCallTo m PA pc ov iv s w) := by
  by_cases h1 : s.c.reg 17 = 63
  · by_cases h : s.c.inn < s.inp.length
    · exact r3call_read w m PA pc ov iv s hM h1 h
    · exact r3call_end w m PA pc ov iv s hM h1 h
  · by_cases h2 : s.c.reg 17 = 64
    · exact r3call_put w m PA pc ov iv s hM h2 hroom
    · by_cases h3 : s.c.reg 17 = 93
      · exact r3call_exit w m PA pc ov iv s hM h3
      · exact r3call_other w m PA pc ov iv s hM h1 h2 h3
end
end Go.Proofs
