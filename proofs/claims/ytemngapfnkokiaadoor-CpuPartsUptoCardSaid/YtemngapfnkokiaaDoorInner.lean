/- (*cpu.Machine).step, over, Step: whatever the machine's word says. -/
import Derived.Test.YtemngapfnkokiaaDoorSteps
import Derived.Test.YtemngapfnkokiaaDoorStepE
namespace Go.Pat
open Go Go.RowKit
theorem or_ite {c : Prop} [Decidable c] {a b : Int × Ms} {s : Ms} (ha : a.1 = 0 ∨ a.2 = s) (hb : b.1 = 0 ∨ b.2 = s) : (if c then a else b).1 = 0 ∨ (if c then a else b).2 = s := by
  by_cases h : c
  · rw [if_pos h]; exact ha
  · rw [if_neg h]; exact hb
theorem execM_or (i : Ins) (s : Ms) : (execM i s).1 = 0 ∨ (execM i s).2 = s := by
  unfold execM
  exact or_ite (.inl rfl) (or_ite (.inl rfl) (or_ite (.inl rfl) (or_ite (.inl rfl) (or_ite (.inl rfl) (or_ite (or_ite (.inl rfl) (.inr rfl)) (or_ite (or_ite (.inl rfl) (.inr rfl)) (or_ite (.inl rfl) (or_ite (.inl rfl) (or_ite (.inr rfl) (or_ite (or_ite (.inl rfl) (.inr rfl)) (.inl rfl)))))))))))
theorem execM_err (i : Ins) (s : Ms) (h : (execM i s).1 ≠ 0) : (execM i s).2 = s := (execM_or i s).resolve_left h
theorem innerM_err (s : Ms) (h : (innerM s).1 ≠ 0) : (innerM s).2 = s := by
  unfold innerM at h ⊢
  split
  · rename_i h1
    rw [if_pos h1] at h
    split
    · rfl
    · rename_i i hi
      rw [hi] at h
      exact execM_err i s h
  · rfl
end Go.Pat
namespace Go.Proofs
open Go Go.RowKit Go.Pat
theorem inner_any (w : World) (m p mb : Nat) (ov iv : Value) (s : Ms) (hM : MachAt w m p mb ov iv s) (hR : RvRows w) (hroom : s.c.out.length + 1 ≤ 140737488355328) :
    Calls Tryd.prog 63 #[.pointer (some ⟨m, 0, none⟩)] w (StepTo m p mb ov iv s (innerM s) w) := by
  by_cases hz : (fetchM s.fs s.c.pc).2 = 0
  · have hf : fetchM s.fs s.c.pc = ((fetchM s.fs s.c.pc).1, 0) := Prod.ext rfl hz
    cases hd : decR (fetchM s.fs s.c.pc).1 with
    | none =>
      have e : innerM s = (31, s) := by unfold innerM; rw [if_pos hz, hd]
      rw [e]
      exact step_noword w m p mb ov iv s hM hR _ hf hd
    | some i =>
      have e : innerM s = execM i s := by unfold innerM; rw [if_pos hz, hd]
      rw [e]
      have hb := decR_some hd
      by_cases h1 : i.op ≤ 1
      · exact step_Lui w m p mb ov iv s hM hR _ hf i hd hb.1 h1
      by_cases h2 : i.op ≤ 2
      · exact step_Aui w m p mb ov iv s hM hR _ hf i hd (by omega) h2
      by_cases h3 : i.op ≤ 3
      · exact step_Jal w m p mb ov iv s hM hR _ hf i hd (by omega) h3
      by_cases h4 : i.op ≤ 4
      · exact step_Jalr w m p mb ov iv s hM hR _ hf i hd (by omega) h4
      by_cases h5 : i.op ≤ 10
      · exact step_Br w m p mb ov iv s hM hR _ hf i hd (by omega) h5
      by_cases h6 : i.op ≤ 17
      · exact step_Ld w m p mb ov iv s hM hR _ hf i hd (by omega) h6
      by_cases h7 : i.op ≤ 21
      · exact step_St w m p mb ov iv s hM hR _ hf i hd (by omega) h7
      by_cases h8 : i.op ≤ 34
      · exact step_Imm w m p mb ov iv s hM hR _ hf i hd (by omega) h8
      by_cases h9 : i.op ≤ 62
      · exact step_Reg w m p mb ov iv s hM hR _ hf i hd (by omega) h9
      by_cases h10 : i.op ≤ 63
      · exact step_Fen w m p mb ov iv s hM hR _ hf i hd (by omega) h10
      by_cases h11 : i.op ≤ 64
      · exact step_Ec w m p mb ov iv s hM hR _ hf i hd (by omega) h11 (fun W hW => call_any W m p mb ov iv s hW hroom)
      exact step_Ebr w m p mb ov iv s hM hR _ hf i hd (by omega) hb.2.1
  · have e : innerM s = (30, s) := by unfold innerM; rw [if_neg hz]
    rw [e]
    exact step_nofetch w m p mb ov iv s hM (fetchM s.fs s.c.pc).1 (fetchM s.fs s.c.pc).2 rfl hz
theorem over_any (w : World) (m p mb : Nat) (ov iv : Value) (s : Ms) (hM : MachAt w m p mb ov iv s) :
    Calls Tryd.prog 62 #[.pointer (some ⟨m, 0, none⟩)] w fun e w' => e = .returned (.bool (overB s.c)) ∧ w' = w := by
  have c4 := hM.chalted
  have c6 := hM.cfault
  have HO := Lib.hid (show overB s.c = (s.c.halted || decide (s.c.fault ≠ 0)) from rfl)
  cases hh : s.c.halted with
  | true =>
    rw [hh] at c4 HO
    clear hh
    go_enter Tryd.func62, Tryd.ntmps62
    go_wp2
    go_ret
    exact ⟨by rw [HO.out]; rfl, rfl⟩
  | false =>
    rw [hh] at c4 HO
    clear hh
    by_cases h0 : s.c.fault = 0
    · have t0 : (s.c.fault != 0) = false := by simp [h0]
      rw [decide_eq_false (fun h => h h0)] at HO
      clear h0
      go_enter Tryd.func62, Tryd.ntmps62
      go_wp2
      go_ret
      exact ⟨by rw [HO.out]; rfl, rfl⟩
    · have t0 : (s.c.fault != 0) = true := by simp [h0]
      rw [decide_eq_true h0] at HO
      clear h0
      go_enter Tryd.func62, Tryd.ntmps62
      go_wp2
      go_ret
      exact ⟨by rw [HO.out]; rfl, rfl⟩
set_option maxHeartbeats 4000000 in
theorem Step_any (w : World) (m p mb : Nat) (ov iv : Value) (s : Ms) (hM : MachAt w m p mb ov iv s) (hR : RvRows w) (hroom : s.c.out.length + 1 ≤ 140737488355328) :
    Calls Tryd.prog 28 #[.pointer (some ⟨m, 0, none⟩)] w (StepTo m p mb ov iv s (stepM s) w) := by
  cases ho : overB s.c with
  | true =>
    have HE := Lib.hid (show stepM s = (s.c.fault, s) by unfold stepM; rw [if_pos ho])
    have hov := fun W h => over_any W m p mb ov iv s h
    rw [ho] at hov
    have HV := Lib.hid hov
    clear hov ho
    have c6 := hM.cfault
    go_enter Tryd.func28, Tryd.ntmps28
    go_wp2_with fail
    refine Calls.mono (HV.out _ hM) ?_
    rintro e w' ⟨rfl, rfl⟩
    go_wp2
    go_ret
    refine ⟨by rw [HE.out]; rfl, ov, ?_, .refl _ _, fun g h => .inl h⟩
    rw [HE.out]
    exact hM
  | false =>
    have hov := fun W h => over_any W m p mb ov iv s h
    rw [ho] at hov
    have HV := Lib.hid hov
    clear hov
    obtain ⟨r, hr⟩ : ∃ r, r = innerM s := ⟨_, rfl⟩
    have HI := Lib.hid (fun W h hr => inner_any W m p mb ov iv s h hr hroom)
    rw [← hr] at HI
    by_cases h0 : r.1 = 0
    · have HE := Lib.hid (show stepM s = (0, { r.2 with c := { r.2.c with regs := r.2.c.regs.set 0 0, steps := IntKind.i64.wrap (r.2.c.steps + 1) } }) by unfold stepM; rw [if_neg (by rw [ho]; decide), ← hr, if_pos h0])
      have H0 := Lib.hid h0
      clear ho hr h0
      go_enter Tryd.func28, Tryd.ntmps28
      go_wp2_with fail
      refine Calls.mono (HV.out _ hM) ?_
      rintro e w' ⟨rfl, rfl⟩
      go_wp2_with fail
      refine Calls.mono (HI.out _ hM hR) ?_
      rintro e w4 ⟨rfl, ov', hM4, hK4, hO4⟩
      rw [H0.out]
      have c1 := hM4.creg 0 (by decide)
      have f1 := hM4.fz (1 + 0)
      have c33 := hM4.csteps
      have f33 := hM4.fz 33
      go_wp2
      go_ret
      refine ⟨by rw [HE.out]; rfl, ov', ?_, (hK4.setCell _ (.inl rfl) _).setCell _ (.inl rfl) _, hO4⟩
      rw [HE.out, show wrap64 (r.2.c.steps + 1) = IntKind.i64.wrap (r.2.c.steps + 1) by rw [wrap64, IntKind.wrap_i64]]
      exact (hM4.putReg 0 0 (by decide) (by decide)).putSteps _
    · have h2 : r.2 = s := by rw [hr]; exact innerM_err s (by rw [← hr]; exact h0)
      have HE := Lib.hid (show stepM s = (r.1, { s with c := { s.c with fault := r.1 } }) by unfold stepM; rw [if_neg (by rw [ho]; decide), ← hr, if_neg h0])
      have t0 : (r.1 != 0) = true := by simp [h0]
      have H2 := Lib.hid h2
      clear ho hr h0 h2
      go_enter Tryd.func28, Tryd.ntmps28
      go_wp2_with fail
      refine Calls.mono (HV.out _ hM) ?_
      rintro e w' ⟨rfl, rfl⟩
      go_wp2_with fail
      refine Calls.mono (HI.out _ hM hR) ?_
      rintro e w4 ⟨rfl, ov', hM4, hK4, hO4⟩
      rw [H2.out] at hM4
      have c36 := hM4.cfault
      have f36 := hM4.fz 36
      go_wp2
      go_ret
      refine ⟨by rw [HE.out]; rfl, ov', ?_, hK4.setCell _ (.inl rfl) _, hO4⟩
      rw [HE.out]
      exact hM4.putFault _
end Go.Proofs
