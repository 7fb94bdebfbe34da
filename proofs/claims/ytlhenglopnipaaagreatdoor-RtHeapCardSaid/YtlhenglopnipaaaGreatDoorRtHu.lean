/- The main of the heap: the whole of it, and how it lies. Plain: no program in sight. -/
import Derived.Test.YtlhenglopnipaaaGreatDoorRtHt
import Derived.Test.YtlhenglopnipaaaGreatDoorRtRm
namespace Go.Pat
open Go Go.RowKit Go.Proofs
section
variable (W : Nat → Nat) (kb : Nat → (Nat → Bool) → Option Nat) (n : Nat)
def keptHC : List In := [⟨22, 2, 2, 0, -16⟩, ⟨21, 0, 2, 9, 0⟩, ⟨21, 0, 2, 18, 8⟩, ⟨22, 9, 0, 0, 0⟩, ⟨22, 18, 0, 0, 0⟩]
def keptTC : List In := [⟨14, 9, 2, 0, 0⟩, ⟨14, 18, 2, 0, 8⟩, ⟨22, 2, 2, 0, 16⟩]
/-- where the blocks end. -/
def heapE : Nat := 65880 + 4 * (heapC W kb 65880 n).length
def hpC : List In := (keptHC ++ (((([⟨22, 2, 2, 0, -512⟩] ++ heapC W kb 65880 n) ++ [⟨22, 10, 18, 0, 0⟩, jalC 65564 (heapE W kb n + 4)]) ++ chksC W (frF kb n) (heapE W kb n + 8) n) ++ [⟨22, 2, 2, 0, 512⟩])) ++ keptTC
end
section
variable {W : Nat → Nat} {kb : Nat → (Nat → Bool) → Option Nat}
theorem ldA_none (m : Nat → Nat) (a : Nat) (h : ∀ x, a ≤ x → x < a + 8 → m x = 0) : ldA m a 8 = 0 := by
  rw [ldA_same (m := fun _ => 0) 8 h]
  simp [ldA]
/-- THE MAIN OF THE HEAP. -/
theorem heap_body (hW : ∀ k, W k ≤ 64) (hk : ∀ i f k, kb i f = some k → k < i ∧ f k = false) (n : Nat) (hn : n ≤ 40) (inp : List UInt8) (hl : (hpC W kb n).length ≤ 230000) : BodyRun (hpC W kb n) inp 170000 ([48, 10] ++ chksO W (frF kb n) n) := by
  intro r m hg h2 hs hm
  obtain ⟨P, hPe⟩ : ∃ P, P = allP (hpC W kb n) := ⟨_, rfl⟩
  have hf : P.length ≤ 4177920 := by rw [hPe, allP_len]; omega
  have hR : P = rtP ++ _ := hPe.trans (allP_rt _)
  rw [← hPe]
  have hz : r 0 = 0 := hg.z
  obtain ⟨A, hA⟩ : ∃ A, A = heapC W kb 65880 n := ⟨_, rfl⟩
  obtain ⟨B, hB⟩ : ∃ B, B = chksC W (frF kb n) (heapE W kb n + 8) n := ⟨_, rfl⟩
  obtain ⟨e, he⟩ : ∃ e, e = heapE W kb n := ⟨_, rfl⟩
  have hea : e = 65880 + 4 * A.length := by rw [he, hA]; rfl
  have hCl : (hpC W kb n).length = A.length + B.length + 12 := by
    unfold hpC
    rw [← hA, ← hB]
    simp only [List.length_append]
    show 5 + (((1 + A.length) + 2) + B.length + 1) + 3 = _
    omega
  have e0 : P = (rtP ++ headC.map In.ins) ++ (⟨22, 2, 2, 0, -16⟩ :: ⟨21, 0, 2, 9, 0⟩ :: ⟨21, 0, 2, 18, 8⟩ :: ⟨22, 9, 0, 0, 0⟩ :: ⟨22, 18, 0, 0, 0⟩ :: ⟨22, 2, 2, 0, -512⟩ :: (A.map In.ins ++ (⟨22, 10, 18, 0, 0⟩ :: (jalC 65564 (e + 4)).ins :: (B.map In.ins ++ (⟨22, 2, 2, 0, 512⟩ :: ⟨14, 9, 2, 0, 0⟩ :: ⟨14, 18, 2, 0, 8⟩ :: ⟨22, 2, 2, 0, 16⟩ :: tailC.map In.ins))))) := by
    rw [hPe, allP_mid]
    unfold hpC
    rw [← hA, ← hB, ← he]
    simp only [List.map_append, List.append_assoc]
    rfl
  have hl0 : 65856 = 65536 + 4 * (rtP ++ headC.map In.ins).length := by decide
  have j0 : insAt P 65856 = some ⟨22, 2, 2, 0, -16⟩ := in_text _ _ _ e0 hl0 0 _ rfl
  have j1 : insAt P 65860 = some ⟨21, 0, 2, 9, 0⟩ := in_text _ _ _ e0 hl0 1 _ rfl
  have j2 : insAt P 65864 = some ⟨21, 0, 2, 18, 8⟩ := in_text _ _ _ e0 hl0 2 _ rfl
  have j3 : insAt P 65868 = some ⟨22, 9, 0, 0, 0⟩ := in_text _ _ _ e0 hl0 3 _ rfl
  have j4 : insAt P 65872 = some ⟨22, 18, 0, 0, 0⟩ := in_text _ _ _ e0 hl0 4 _ rfl
  have j5 : insAt P 65876 = some ⟨22, 2, 2, 0, -512⟩ := in_text _ _ _ e0 hl0 5 _ rfl
  have T0 : To P inp 6 ⟨65856, r, m, [], 0⟩ ⟨65880, up (up (up (up r 2 33816544) 9 0) 18 0) 2 33816032, stA (stA m 33816544 (r 9) 8) 33816552 (r 18) 8, [], 0⟩ := by
    refine To.via (st_ai 22 2 2 (-16) (by decide) j0 33816544 (alu_addi _ _ _ (by rw [h2]; decide))) ?_
    refine To.via (st_sd 2 9 0 j1 33816544 (by rw [up_eq _ _ _ (by decide)]; decide) (by decide)) ?_
    rw [up_ne r 2 33816544 9 (by decide)]
    refine To.via (st_sd 2 18 8 j2 33816552 (by rw [up_eq _ _ _ (by decide)]; decide) (by decide)) ?_
    rw [up_ne r 2 33816544 18 (by decide)]
    refine To.via (st_ai 22 9 0 0 (by decide) j3 0 (alu_addi _ _ _ (by rw [up_ne _ _ _ _ (by decide), hz]; decide))) ?_
    refine To.via (st_ai 22 18 0 0 (by decide) j4 0 (alu_addi _ _ _ (by rw [up_ne _ _ _ _ (by decide), up_ne _ _ _ _ (by decide), hz]; decide))) ?_
    refine To.via (st_ai 22 2 2 (-512) (by decide) j5 33816032 (alu_addi _ _ _ (by rw [up_ne _ _ _ _ (by decide), up_ne _ _ _ _ (by decide), up_eq _ _ _ (by decide)]; decide))) ?_
    exact To.refl 0
  have g0 := T0.good hf hg
  have hz8 : ∀ a, a + 8 ≤ 33816544 → ldA (stA (stA m 33816544 (r 9) 8) 33816552 (r 18) 8) a 8 = 0 := fun a ha => by
    rw [ldA_st_ne _ _ _ _ _ _ (by omega), ldA_st_ne _ _ _ _ _ _ (by omega)]
    exact ldA_none m a fun x _ h => hm x (by omega)
  have hS0 : HS W (stA (stA m 33816544 (r 9) 8) 33816552 (r 18) 8) 0 (fun _ => false) :=
    ⟨fun _ => 0, fun _ => 0, [], 0, ⟨hz8 _ (by decide), hz8 _ (by decide), Nat.le_refl _, by decide, fun _ => by decide, by simp, by simp, by simp, by simp, List.nodup_nil, by simp, by simp⟩, by simp⟩
  obtain ⟨r1, m1, T1, f2, f18, hU, hS1⟩ := blocks_run (P := P) (inp := inp) (o := []) (q := 0) hW hk hR hf 65880 ((rtP ++ headC.map In.ins) ++ [⟨22, 2, 2, 0, -16⟩, ⟨21, 0, 2, 9, 0⟩, ⟨21, 0, 2, 18, 8⟩, ⟨22, 9, 0, 0, 0⟩, ⟨22, 18, 0, 0, 0⟩, ⟨22, 2, 2, 0, -512⟩]) _ _ (by rw [List.length_append]; decide) g0 rfl rfl hS0 n _ hn (by rw [e0, ← hA]; simp only [List.append_assoc, List.cons_append, List.nil_append]; rfl)
  rw [← hA, ← hea] at T1
  have g1 := T1.good hf g0
  have e2 : P = ((rtP ++ headC.map In.ins) ++ (⟨22, 2, 2, 0, -16⟩ :: ⟨21, 0, 2, 9, 0⟩ :: ⟨21, 0, 2, 18, 8⟩ :: ⟨22, 9, 0, 0, 0⟩ :: ⟨22, 18, 0, 0, 0⟩ :: ⟨22, 2, 2, 0, -512⟩ :: A.map In.ins)) ++ (⟨22, 10, 18, 0, 0⟩ :: (jalC 65564 (e + 4)).ins :: (B.map In.ins ++ (⟨22, 2, 2, 0, 512⟩ :: ⟨14, 9, 2, 0, 0⟩ :: ⟨14, 18, 2, 0, 8⟩ :: ⟨22, 2, 2, 0, 16⟩ :: tailC.map In.ins))) := by
    rw [e0]
    simp only [List.append_assoc, List.cons_append]
  obtain ⟨Q, hQ⟩ : ∃ Q, Q = (rtP ++ headC.map In.ins) ++ (⟨22, 2, 2, 0, -16⟩ :: ⟨21, 0, 2, 9, 0⟩ :: ⟨21, 0, 2, 18, 8⟩ :: ⟨22, 9, 0, 0, 0⟩ :: ⟨22, 18, 0, 0, 0⟩ :: ⟨22, 2, 2, 0, -512⟩ :: A.map In.ins) := ⟨_, rfl⟩
  rw [← hQ] at e2
  have hQl : Q.length = 86 + A.length := by
    rw [hQ, List.length_append, show (rtP ++ headC.map In.ins).length = 80 from by decide]
    simp only [List.length_cons, List.length_map]
    omega
  have k0 : insAt P e = some ⟨22, 10, 18, 0, 0⟩ := in_text _ _ _ e2 (by omega) 0 _ rfl
  have T2 : To P inp 1 ⟨e, r1, m1, [], 0⟩ ⟨e + 4, up r1 10 0, m1, [], 0⟩ := To.step (st_ai 22 10 18 0 (by decide) k0 0 (alu_addi _ _ _ (by rw [f18]; decide)))
  have g2 := T2.good hf g1
  obtain ⟨r3, m3, T3, kr3, km3⟩ := print_call (P := P) (inp := inp) (at_ := e + 4) (Q ++ [⟨22, 10, 18, 0, 0⟩]) _ (e2.trans (at_2 _ _ _ _)) hR (by rw [List.length_append, List.length_singleton]; omega) hf g2
  rw [up_eq _ _ _ (by decide), dec_zero] at T3
  have g3 := T3.good hf g2
  have f32 : r3 2 = 33816032 := by
    rw [kr3 2 (by decide) (by decide) (by decide) (by decide) (by decide) (by decide) (by decide) (by decide), up_ne _ _ _ _ (by decide)]
    exact f2
  obtain ⟨r4, m4, T4, f42, km4⟩ := chks_run (P := P) (inp := inp) (q := 0) hW hR hf (e + 8) (Q ++ [⟨22, 10, 18, 0, 0⟩, (jalC 65564 (e + 4)).ins]) (by rw [List.length_append]; show _ = 65536 + 4 * (Q.length + 2); omega) g3 f32 (hS1.keep km3) n (⟨22, 2, 2, 0, 512⟩ :: ⟨14, 9, 2, 0, 0⟩ :: ⟨14, 18, 2, 0, 8⟩ :: ⟨22, 2, 2, 0, 16⟩ :: tailC.map In.ins) (Nat.le_refl _) (by rw [e2, he, ← hB]; simp only [List.append_assoc, List.cons_append, List.nil_append])
  have hB2 : chksC W (frF kb n) (e + 8) n = B := by rw [hB, he]
  rw [hB2] at T4
  have e5 : P = (Q ++ (⟨22, 10, 18, 0, 0⟩ :: (jalC 65564 (e + 4)).ins :: B.map In.ins)) ++ (⟨22, 2, 2, 0, 512⟩ :: ⟨14, 9, 2, 0, 0⟩ :: ⟨14, 18, 2, 0, 8⟩ :: ⟨22, 2, 2, 0, 16⟩ :: tailC.map In.ins) := by rw [e2]; simp only [List.append_assoc, List.cons_append]
  have hl5 : e + 8 + 4 * B.length = 65536 + 4 * (Q ++ (⟨22, 10, 18, 0, 0⟩ :: (jalC 65564 (e + 4)).ins :: B.map In.ins)).length := by
    rw [List.length_append]
    simp only [List.length_cons, List.length_map]
    omega
  have l0 := in_text _ _ _ e5 hl5 0 _ rfl
  have l1 := in_text _ _ _ e5 hl5 1 _ rfl
  have l2 := in_text _ _ _ e5 hl5 2 _ rfl
  have l3 := in_text _ _ _ e5 hl5 3 _ rfl
  have T5 : To P inp 4 ⟨e + 8 + 4 * B.length, r4, m4, [] ++ ([48] ++ [10]) ++ chksO W (frF kb n) n, 0⟩ ⟨e + 8 + 4 * B.length + 16, up (up (up (up r4 2 33816544) 9 (ldA m4 33816544 8)) 18 (ldA m4 33816552 8)) 2 33816560, m4, [] ++ ([48] ++ [10]) ++ chksO W (frF kb n) n, 0⟩ := by
    refine To.via (st_ai 22 2 2 512 (by decide) l0 33816544 (alu_addi _ _ _ (by rw [f42]; decide))) ?_
    refine To.via (st_ld 9 2 0 l1 33816544 (by rw [up_eq _ _ _ (by decide)]; decide) (by decide)) ?_
    refine To.via (st_ld 18 2 8 l2 33816552 (by rw [up_ne _ _ _ _ (by decide), up_eq _ _ _ (by decide)]; decide) (by decide)) ?_
    refine To.via (st_ai 22 2 2 16 (by decide) l3 33816560 (alu_addi _ _ _ (by rw [up_ne _ _ _ _ (by decide), up_ne _ _ _ _ (by decide), up_eq _ _ _ (by decide)]; decide))) ?_
    exact To.refl 0
  refine ⟨up (up (up (up r4 2 33816544) 9 (ldA m4 33816544 8)) 18 (ldA m4 33816552 8)) 2 33816560, m4, 0, ?_, rfl, ?_⟩
  · have := ((((T0.trans T1).trans T2).trans T3).trans T4).trans T5
    rw [hCl, show 65856 + 4 * (A.length + B.length + 12) = e + 8 + 4 * B.length + 16 by omega]
    exact this.mono (by omega)
  · rw [keep_slot km4, keep_slot km3, ldA_same (m := stA (stA m 33816544 (r 9) 8) 33816552 (r 18) 8) 8 (fun x h1 _ => hU x (by omega)), ldA_st_ne _ _ _ _ _ _ (by decide), ldA_st_ne _ _ _ _ _ _ (by decide)]
    exact hs
end
end Go.Pat
