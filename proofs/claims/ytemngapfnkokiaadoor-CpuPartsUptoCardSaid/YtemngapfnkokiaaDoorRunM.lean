/- (*cpu.Machine).Run: at most so many steps. -/
import Derived.Test.YtemngapfnkokiaaDoorInner
namespace Go.Pat
open Go Go.RowKit
theorem p_ite {α : Type} {P : α → Prop} {c : Prop} [Decidable c] {a b : α} (ha : P a) (hb : P b) : P (if c then a else b) := by
  by_cases h : c
  · rw [if_pos h]; exact ha
  · rw [if_neg h]; exact hb
/-- what no step changes, and how much is written. -/
def Alike (s t : Ms) : Prop := t.fs.map (·.blk) = s.fs.map (·.blk) ∧ t.c.out.length ≤ s.c.out.length + 1 ∧ t.inp = s.inp
theorem Alike.refl (s : Ms) : Alike s s := ⟨rfl, Nat.le_succ _, rfl⟩
theorem callM_alike (s : Ms) : Alike s (callM s).2 := by
  unfold callM
  refine p_ite (P := fun r : Int × Ms => Alike s r.2) (p_ite (P := fun r : Int × Ms => Alike s r.2) ⟨rfl, Nat.le_succ _, rfl⟩ ⟨rfl, Nat.le_succ _, rfl⟩) (p_ite (P := fun r : Int × Ms => Alike s r.2) ⟨rfl, by simp, rfl⟩ (p_ite (P := fun r : Int × Ms => Alike s r.2) ⟨rfl, Nat.le_succ _, rfl⟩ (.refl s)))
theorem execM_alike (i : Ins) (s : Ms) : Alike s (execM i s).2 := by
  have q : Alike s s := .refl s
  have hc := callM_alike s
  unfold execM
  exact p_ite (P := fun r : Int × Ms => Alike s r.2) ⟨rfl, Nat.le_succ _, rfl⟩ (p_ite (P := fun r : Int × Ms => Alike s r.2) ⟨rfl, Nat.le_succ _, rfl⟩ (p_ite (P := fun r : Int × Ms => Alike s r.2) ⟨rfl, Nat.le_succ _, rfl⟩ (p_ite (P := fun r : Int × Ms => Alike s r.2) ⟨rfl, Nat.le_succ _, rfl⟩
    (p_ite (P := fun r : Int × Ms => Alike s r.2) ⟨rfl, Nat.le_succ _, rfl⟩ (p_ite (P := fun r : Int × Ms => Alike s r.2) (p_ite (P := fun r : Int × Ms => Alike s r.2) ⟨rfl, Nat.le_succ _, rfl⟩ q)
    (p_ite (P := fun r : Int × Ms => Alike s r.2) (p_ite (P := fun r : Int × Ms => Alike s r.2) ⟨Go.Proofs.storeM_blk _ _ _ _, Nat.le_succ _, rfl⟩ q) (p_ite (P := fun r : Int × Ms => Alike s r.2) ⟨rfl, Nat.le_succ _, rfl⟩ (p_ite (P := fun r : Int × Ms => Alike s r.2) ⟨rfl, Nat.le_succ _, rfl⟩
    (p_ite (P := fun r : Int × Ms => Alike s r.2) q (p_ite (P := fun r : Int × Ms => Alike s r.2) (p_ite (P := fun r : Int × Ms => Alike s r.2) hc q) ⟨rfl, Nat.le_succ _, rfl⟩))))))))))
theorem innerM_alike (s : Ms) : Alike s (innerM s).2 := by
  unfold innerM
  refine p_ite (P := fun r : Int × Ms => Alike s r.2) ?_ (.refl s)
  cases decR (fetchM s.fs s.c.pc).1 with
  | none => exact .refl s
  | some i => exact execM_alike i s
theorem stepM_alike (s : Ms) : Alike s (stepM s).2 := by
  have h := innerM_alike s
  unfold stepM
  exact p_ite (P := fun r : Int × Ms => Alike s r.2) (.refl s) (p_ite (P := fun r : Int × Ms => Alike s r.2) h ⟨rfl, Nat.le_succ _, rfl⟩)
theorem runM_succ (k : Nat) (s : Ms) : runM (k + 1) s = if overB s.c then (0, s) else if (stepM s).1 = 0 then ((runM k (stepM s).2).1 + 1, (runM k (stepM s).2).2) else (0, (stepM s).2) := rfl
end Go.Pat
namespace Go.Proofs
open Go Go.RowKit Go.Pat
theorem rvRows_kept {w w' : World} {S : Nat → Prop} (h : RvRows w) (hk : KeptBut S w w') (hn : ¬ S 1) : RvRows w' :=
  ⟨Nat.lt_of_lt_of_le h.1 hk.size, fun op ho j v hv => (World.cell?_of_block (hk.block _ h.1 hn)).trans (h.2 op ho j v hv)⟩
/-- what a run leaves. -/
def RunTo (m p mb : Nat) (ov iv : Value) (s : Ms) (n : Nat) (w : World) (e : Ending) (w' : World) : Prop :=
  e = .returned (.int .i64 ((runM n s).1 : Int)) ∧ ∃ ov', MachAt w' m p mb ov' iv (runM n s).2 ∧ KeptBut (mine m s.fs ov) w w' ∧ (∀ g, ov'.ownBlock = some g → ov.ownBlock = some g ∨ w.heap.size ≤ g) ∧ (runM n s).2.fs.map (·.blk) = s.fs.map (·.blk)
set_option maxHeartbeats 8000000 in
theorem Run_any (w : World) (m p mb : Nat) (ov iv : Value) (s : Ms) (n : Nat) (hM : MachAt w m p mb ov iv s) (hR : RvRows w) (hsep : ¬ mine m s.fs ov 1) (hn : n ≤ 9223372036854775807) (hroom : s.c.out.length + n ≤ 140737488355328) :
    Calls Tryd.prog 29 #[.pointer (some ⟨m, 0, none⟩), .int .i64 (n : Int)] w (RunTo m p mb ov iv s n w) := by
  go_enter Tryd.func29, Tryd.ntmps29
  go_wp2
  go_loopw [5] (fun i wr => ∃ (k : Nat) (sk : Ms) (ovk : Value), k ≤ n ∧ i = .int .i64 k ∧ runM n s = ((runM (n - k) sk).1 + k, (runM (n - k) sk).2) ∧ MachAt wr m p mb ovk iv sk ∧ KeptBut (mine m s.fs ov) w wr ∧
    sk.fs.map (·.blk) = s.fs.map (·.blk) ∧ sk.c.out.length ≤ s.c.out.length + k ∧ ∀ g, ovk.ownBlock = some g → ov.ownBlock = some g ∨ w.heap.size ≤ g) (fun i _ => n - (intOf i).toNat)
  case atStart => exact ⟨0, s, ov, by omega, rfl, rfl, hM, .refl _ _, rfl, by omega, fun g h => .inl h⟩
  case round =>
    obtain ⟨k, sk, ovk, hk, rfl, hrun, hMk, hKk, hbk, hok, hvk⟩ := hrel
    have hRk := rvRows_kept hR hKk hsep
    by_cases hlt : k < n
    · have td : decide ((k : Int) < (n : Int)) = true := decide_eq_true (by omega)
      have hov := fun W h => over_any W m p mb ovk iv sk h
      cases ho : overB sk.c with
      | true =>
        have HE := Lib.hid (show runM n s = (k, sk) by rw [hrun, show n - k = (n - k - 1) + 1 by omega, runM_succ, if_pos ho]; simp)
        rw [ho] at hov
        have HV := Lib.hid hov
        clear hov ho hrun
        go_wp2_with fail
        refine Calls.mono (HV.out _ hMk) ?_
        rintro e w' ⟨rfl, rfl⟩
        go_wp2
        go_ret
        refine ⟨by rw [HE.out]; rfl, ovk, ?_, hKk, hvk, by rw [HE.out]; exact hbk⟩
        rw [HE.out]
        exact hMk
      | false =>
        rw [ho] at hov
        have HV := Lib.hid hov
        obtain ⟨r, hr⟩ : ∃ r, r = stepM sk := ⟨_, rfl⟩
        have HS := Lib.hid (Step_any _ m p mb ovk iv sk hMk hRk (by omega))
        have hal := stepM_alike sk
        have hr1 : runM (n - k) sk = if r.1 = 0 then ((runM (n - (k + 1)) r.2).1 + 1, (runM (n - (k + 1)) r.2).2) else (0, r.2) := by
          rw [show n - k = (n - (k + 1)) + 1 by omega, runM_succ, if_neg (by rw [ho]; decide), ← hr]
        rw [← hr] at HS hal
        clear hov ho hr
        by_cases h0 : r.1 = 0
        · rw [if_pos h0] at hr1
          have HN := Lib.hid (show runM n s = ((runM (n - (k + 1)) r.2).1 + (k + 1), (runM (n - (k + 1)) r.2).2) by rw [hrun, hr1]; simp only [Prod.mk.injEq, and_true]; omega)
          have H0 := Lib.hid h0
          clear hrun hr1 h0
          go_wp2_with fail
          refine Calls.mono (HV.out _ hMk) ?_
          rintro e w' ⟨rfl, rfl⟩
          go_wp2_with fail
          refine Calls.mono HS.out ?_
          rintro e w4 ⟨rfl, ov', hM4, hK4, hO4⟩
          rw [H0.out]
          go_wp2
          go_roundw
          case rel =>
            refine ⟨k + 1, r.2, ov', by omega, by go_num, HN.out, hM4, ?_, hal.1.trans hbk, by have := hal.2.1; omega, fun g h => ?_⟩
            · refine ⟨hK4.os.trans hKk.os, hK4.tape.trans hKk.tape, hK4.output.trans hKk.output, Nat.le_trans hKk.size hK4.size, fun j hj hnj => (hK4.block j (Nat.lt_of_lt_of_le hj hKk.size) (fun h => ?_)).trans (hKk.block j hj hnj)⟩
              rcases h with h | h | h
              · exact hnj (.inl h)
              · exact hnj (.inr (.inl (hbk ▸ h)))
              · rcases hvk j h with h | h
                · exact hnj (.inr (.inr h))
                · omega
            · rcases hO4 g h with h | h
              · exact hvk g h
              · exact .inr (Nat.le_trans hKk.size h)
          case measure => simp [intOf]; omega
        · rw [if_neg h0] at hr1
          have HN := Lib.hid (show runM n s = (k, r.2) by rw [hrun, hr1]; simp)
          have t0 : (r.1 == 0) = false := by simp [h0]
          clear hrun hr1 h0
          go_wp2_with fail
          refine Calls.mono (HV.out _ hMk) ?_
          rintro e w' ⟨rfl, rfl⟩
          go_wp2_with fail
          refine Calls.mono HS.out ?_
          rintro e w4 ⟨rfl, ov', hM4, hK4, hO4⟩
          go_wp2
          go_ret
          refine ⟨by rw [HN.out]; rfl, ov', ?_, ?_, ?_, by rw [HN.out]; exact hal.1.trans hbk⟩
          · rw [HN.out]; exact hM4
          · refine ⟨hK4.os.trans hKk.os, hK4.tape.trans hKk.tape, hK4.output.trans hKk.output, Nat.le_trans hKk.size hK4.size, fun j hj hnj => (hK4.block j (Nat.lt_of_lt_of_le hj hKk.size) (fun h => ?_)).trans (hKk.block j hj hnj)⟩
            rcases h with h | h | h
            · exact hnj (.inl h)
            · exact hnj (.inr (.inl (hbk ▸ h)))
            · rcases hvk j h with h | h
              · exact hnj (.inr (.inr h))
              · omega
          · intro g h
            rcases hO4 g h with h | h
            · exact hvk g h
            · exact .inr (Nat.le_trans hKk.size h)
    · have td : decide ((k : Int) < (n : Int)) = false := decide_eq_false (by omega)
      obtain rfl : k = n := by omega
      have HE := Lib.hid (show runM k s = (k, sk) by rw [hrun, Nat.sub_self]; simp [runM])
      clear hrun
      go_wp2
      go_ret
      refine ⟨by rw [HE.out]; rfl, ovk, ?_, hKk, hvk, by rw [HE.out]; exact hbk⟩
      rw [HE.out]
      exact hMk
end Go.Proofs
