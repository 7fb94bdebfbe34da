/- The main of the heap: what it looks at and prints, and the whole of it. Plain: no program in sight. -/
import Derived.Test.YtlhenglopnipaaaGreatDoorRtHs
namespace Go.Pat
open Go Go.RowKit Go.Proofs
section
variable {W : Nat → Nat} {P rest : List Ins} {inp : List UInt8} {o : List UInt8} {q n : Nat} {fr : Nat → Bool} {r m : Nat → Nat}
theorem HS.keep {m' : Nat → Nat} (h : HS W m n fr) (hk : keepM m m') : HS W m' n fr := by
  obtain ⟨sl, wd, fl, u, hI, hw⟩ := h
  exact ⟨sl, wd, fl, u, hI.keep hk, hw⟩
/-- where a block lies. -/
theorem HS.slot (h : HS W m n fr) (i : Nat) (hi : i < n) (hf : fr i = false) : ∃ s, s < 256 ∧ n ≤ 40 ∧ ldA m (tabA i) 8 = hpA s ∧ ∀ j, j < W i → ldA m (hpA s + 8 * j) 8 = 1000 * i + j + 1 := by
  obtain ⟨sl, wd, fl, u, hI, hw⟩ := h
  have h1 := hI.i40
  have h2 := hI.ui
  have h3 := hI.slu i hi hf
  exact ⟨sl i, by omega, h1, hI.tab i hi, fun j hj => hI.con i hi hf j (by rw [hw i hi]; exact hj)⟩
theorem in_text (a : Nat) (pre post : List Ins) (hP : P = pre ++ post) (ha : a = 65536 + 4 * pre.length) (k : Nat) (c : Ins) (hc : post[k]? = some c) : insAt P (a + 4 * k) = some c := by
  subst hP ha
  unfold insAt
  rw [if_pos ⟨by omega, by omega⟩, show (65536 + 4 * pre.length + 4 * k - 65536) / 4 = pre.length + k by omega, List.getElem?_append_right (by omega), Nat.add_sub_cancel_left]
  exact hc
def chkC (a i : Nat) : Nat → List In
  | 0 => []
  | c + 1 => chkC a i c ++ [⟨14, 9, 2, 0, (8 * i : Nat)⟩, ⟨14, 10, 9, 0, (8 * (7 * c) : Nat)⟩, jalC 65564 (a + 12 * c + 8)]
def chkO (i : Nat) : Nat → List UInt8
  | 0 => []
  | c + 1 => chkO i c ++ (decB (1000 * i + 7 * c + 1) ++ [10])
theorem chkC_len (a i : Nat) : ∀ c, (chkC a i c).length = 3 * c
  | 0 => rfl
  | c + 1 => by rw [chkC, List.length_append, chkC_len a i c]; rfl
/-- every seventh word of a block. -/
theorem chk_run (hW : ∀ k, W k ≤ 64) (hR : P = rtP ++ rest) (hf : P.length ≤ 4177920) (a i : Nat) (hi : i < n) (hfr : fr i = false) (pre : List Ins) (ha : a = 65536 + 4 * pre.length) (hg : Good ⟨a, r, m, o, q⟩) (h2 : r 2 = 33816032) (hH : HS W m n fr) : ∀ (c : Nat) (post : List Ins), (∀ x, x < c → 7 * x < W i) → P = pre ++ ((chkC a i c).map In.ins ++ post) →
    ∃ r' m', To P inp (243 * c) ⟨a, r, m, o, q⟩ ⟨a + 12 * c, r', m', o ++ chkO i c, q⟩ ∧ r' 2 = 33816032 ∧ keepM m m'
  | 0, post, _, _ => ⟨r, m, by rw [chkO, List.append_nil]; exact To.refl 0, h2, keepM.refl _⟩
  | c + 1, post, hc, hP => by
    have e1 : P = pre ++ ((chkC a i c).map In.ins ++ (⟨14, 9, 2, 0, (8 * i : Nat)⟩ :: ⟨14, 10, 9, 0, (8 * (7 * c) : Nat)⟩ :: (jalC 65564 (a + 12 * c + 8)).ins :: post)) := by
      rw [hP, chkC]
      simp only [List.map_append, List.append_assoc]
      rfl
    obtain ⟨r1, m1, h1, f2, k1⟩ := chk_run hW hR hf a i hi hfr pre ha hg h2 hH c _ (fun x hx => hc x (by omega)) e1
    have hg1 := h1.good hf hg
    obtain ⟨s, hs, hn, ht, hcon⟩ := (hH.keep k1).slot i hi hfr
    have hwi := hW i
    have hci := hc c (by omega)
    have e2 : P = (pre ++ (chkC a i c).map In.ins) ++ (⟨14, 9, 2, 0, (8 * i : Nat)⟩ :: ⟨14, 10, 9, 0, (8 * (7 * c) : Nat)⟩ :: (jalC 65564 (a + 12 * c + 8)).ins :: post) := by rw [e1, List.append_assoc]
    have hl : a + 12 * c = 65536 + 4 * (pre ++ (chkC a i c).map In.ins).length := by rw [List.length_append, List.length_map, chkC_len]; omega
    have i1 : insAt P (a + 12 * c) = some ⟨14, 9, 2, 0, (8 * i : Nat)⟩ := in_text _ _ _ e2 hl 0 _ rfl
    have i2 : insAt P (a + 12 * c + 4) = some ⟨14, 10, 9, 0, (8 * (7 * c) : Nat)⟩ := in_text _ _ _ e2 hl 1 _ rfl
    have hA : To P inp 2 ⟨a + 12 * c, r1, m1, o ++ chkO i c, q⟩ ⟨a + 12 * c + 8, up (up r1 9 (hpA s)) 10 (1000 * i + 7 * c + 1), m1, o ++ chkO i c, q⟩ := by
      refine To.via (st_ld 9 2 _ i1 (tabA i) (by rw [f2]; exact tab_at i (by omega)) (tab_wr i (by omega))) ?_
      rw [ht]
      refine To.via (st_ld 10 9 _ i2 (hpA s + 8 * (7 * c)) (by rw [up_eq _ _ _ (by decide)]; exact hp_at _ _ hs (by omega)) (hp_wr _ _ hs (by omega))) ?_
      rw [hcon _ hci]
      exact To.refl 0
    have hg2 := hA.good hf hg1
    obtain ⟨r2, m2, hB, kr, km⟩ := print_call (P := P) (inp := inp) (at_ := a + 12 * c + 8) ((pre ++ (chkC a i c).map In.ins) ++ [⟨14, 9, 2, 0, (8 * i : Nat)⟩, ⟨14, 10, 9, 0, (8 * (7 * c) : Nat)⟩]) post (e2.trans (at_3 _ _ _ _ _)) hR (by rw [List.length_append]; show _ = 65536 + 4 * (_ + 2); omega) hf hg2
    rw [up_eq _ _ _ (by decide)] at hB
    refine ⟨r2, m2, ?_, ?_, k1.trans km⟩
    · have := ((h1.trans hA).trans hB).mono (M := 243 * (c + 1)) (by omega)
      rw [chkO, ← List.append_assoc, show a + 12 * (c + 1) = a + 12 * c + 8 + 4 by omega]
      exact this
    · rw [kr 2 (by decide) (by decide) (by decide) (by decide) (by decide) (by decide) (by decide) (by decide), up_ne _ _ _ _ (by decide), up_ne _ _ _ _ (by decide)]
      exact f2
theorem hp_and7 : ∀ s, s < 256 → aluA 27 (hpA s) (wrN 7) = 0 := by decide +kernel
def cbC (W : Nat → Nat) (a i : Nat) : Bool → List In
  | true => []
  | false => [⟨14, 10, 2, 0, (8 * i : Nat)⟩, ⟨27, 10, 10, 0, 7⟩, jalC 65564 (a + 8)] ++ chkC (a + 12) i ((W i + 6) / 7)
def cbO (W : Nat → Nat) (i : Nat) : Bool → List UInt8
  | true => []
  | false => [48, 10] ++ chkO i ((W i + 6) / 7)
theorem dec_zero : decB 0 = [48] := by decide +kernel
/-- one block is looked at. -/
theorem cb_run (hW : ∀ k, W k ≤ 64) (hR : P = rtP ++ rest) (hf : P.length ≤ 4177920) (a i : Nat) (hi : i < n) (b : Bool) (hfr : fr i = b) (pre post : List Ins) (ha : a = 65536 + 4 * pre.length) (hg : Good ⟨a, r, m, o, q⟩) (h2 : r 2 = 33816032) (hH : HS W m n fr) (hP : P = pre ++ ((cbC W a i b).map In.ins ++ post)) :
    ∃ r' m', To P inp 2680 ⟨a, r, m, o, q⟩ ⟨a + 4 * (cbC W a i b).length, r', m', o ++ cbO W i b, q⟩ ∧ r' 2 = 33816032 ∧ keepM m m' := by
  cases b with
  | true => exact ⟨r, m, by rw [cbO, List.append_nil]; exact To.refl _, h2, keepM.refl _⟩
  | false =>
    have hwi := hW i
    obtain ⟨s, hs, hn, ht, -⟩ := hH.slot i hi hfr
    have e1 : P = pre ++ (⟨14, 10, 2, 0, (8 * i : Nat)⟩ :: ⟨27, 10, 10, 0, 7⟩ :: (jalC 65564 (a + 8)).ins :: ((chkC (a + 12) i ((W i + 6) / 7)).map In.ins ++ post)) := by
      rw [hP, cbC, List.map_append, List.append_assoc]
      rfl
    have i1 : insAt P a = some ⟨14, 10, 2, 0, (8 * i : Nat)⟩ := in_text _ _ _ e1 ha 0 _ rfl
    have i2 : insAt P (a + 4) = some ⟨27, 10, 10, 0, 7⟩ := in_text _ _ _ e1 ha 1 _ rfl
    have hA : To P inp 2 ⟨a, r, m, o, q⟩ ⟨a + 8, up (up r 10 (hpA s)) 10 0, m, o, q⟩ := by
      refine To.via (st_ld 10 2 _ i1 (tabA i) (by rw [h2]; exact tab_at i (by omega)) (tab_wr i (by omega))) ?_
      rw [ht]
      refine To.via (st_ai 27 10 10 7 (by decide) i2 0 (by rw [up_eq _ _ _ (by decide)]; exact hp_and7 s hs)) ?_
      exact To.refl 0
    have hg1 := hA.good hf hg
    obtain ⟨r2, m2, hB, kr, km⟩ := print_call (P := P) (inp := inp) (at_ := a + 8) (pre ++ [⟨14, 10, 2, 0, (8 * i : Nat)⟩, ⟨27, 10, 10, 0, 7⟩]) _ (e1.trans (at_3 _ _ _ _ _)) hR (by rw [List.length_append]; show _ = 65536 + 4 * (pre.length + 2); omega) hf hg1
    rw [up_eq _ _ _ (by decide), dec_zero] at hB
    have hg2 := hB.good hf hg1
    have f2 : r2 2 = 33816032 := by
      rw [kr 2 (by decide) (by decide) (by decide) (by decide) (by decide) (by decide) (by decide) (by decide), up_ne _ _ _ _ (by decide), up_ne _ _ _ _ (by decide)]
      exact h2
    obtain ⟨r3, m3, hC, f3, km3⟩ := chk_run (inp := inp) (o := o ++ ([48] ++ [10])) (q := q) (r := r2) (m := m2) (P := P) hW hR hf (a + 12) i hi hfr (pre ++ [⟨14, 10, 2, 0, (8 * i : Nat)⟩, ⟨27, 10, 10, 0, 7⟩, (jalC 65564 (a + 8)).ins]) (by rw [List.length_append]; show _ = 65536 + 4 * (pre.length + 3); omega) hg2 f2 (hH.keep km) ((W i + 6) / 7) post (fun x hx => by omega) (by rw [e1]; simp only [List.append_assoc, List.cons_append, List.nil_append])
    refine ⟨r3, m3, ?_, f3, km.trans km3⟩
    have := ((hA.trans hB).trans hC).mono (M := 2680) (by omega)
    have hl : (cbC W a i false).length = 3 + 3 * ((W i + 6) / 7) := by rw [cbC, List.length_append, chkC_len]; rfl
    rw [hl, cbO, show a + 4 * (3 + 3 * ((W i + 6) / 7)) = a + 12 + 12 * ((W i + 6) / 7) by omega, ← List.append_assoc]
    exact this
def chksC (W : Nat → Nat) (fr : Nat → Bool) (a : Nat) : Nat → List In
  | 0 => []
  | i + 1 => chksC W fr a i ++ cbC W (a + 4 * (chksC W fr a i).length) i (fr i)
def chksO (W : Nat → Nat) (fr : Nat → Bool) : Nat → List UInt8
  | 0 => []
  | i + 1 => chksO W fr i ++ cbO W i (fr i)
/-- all blocks are looked at. -/
theorem chks_run (hW : ∀ k, W k ≤ 64) (hR : P = rtP ++ rest) (hf : P.length ≤ 4177920) (a : Nat) (pre : List Ins) (ha : a = 65536 + 4 * pre.length) (hg : Good ⟨a, r, m, o, q⟩) (h2 : r 2 = 33816032) (hH : HS W m n fr) : ∀ (c : Nat) (post : List Ins), c ≤ n → P = pre ++ ((chksC W fr a c).map In.ins ++ post) →
    ∃ r' m', To P inp (2680 * c) ⟨a, r, m, o, q⟩ ⟨a + 4 * (chksC W fr a c).length, r', m', o ++ chksO W fr c, q⟩ ∧ r' 2 = 33816032 ∧ keepM m m'
  | 0, post, _, _ => ⟨r, m, by rw [chksO, List.append_nil]; exact To.refl 0, h2, keepM.refl _⟩
  | c + 1, post, hc, hP => by
    have e1 : P = pre ++ ((chksC W fr a c).map In.ins ++ ((cbC W (a + 4 * (chksC W fr a c).length) c (fr c)).map In.ins ++ post)) := by
      rw [hP, chksC]
      simp only [List.map_append, List.append_assoc]
    obtain ⟨r1, m1, h1, f2, k1⟩ := chks_run hW hR hf a pre ha hg h2 hH c _ (by omega) e1
    have hg1 := h1.good hf hg
    obtain ⟨r2, m2, hB, g2, k2⟩ := cb_run (P := P) (inp := inp) (o := o ++ chksO W fr c) (q := q) hW hR hf (a + 4 * (chksC W fr a c).length) c (by omega) (fr c) rfl (pre ++ (chksC W fr a c).map In.ins) post (by rw [List.length_append, List.length_map]; omega) hg1 f2 (hH.keep k1) (by rw [e1]; simp only [List.append_assoc])
    refine ⟨r2, m2, ?_, g2, k1.trans k2⟩
    have := h1.trans hB
    rw [chksC, chksO, ← List.append_assoc, List.length_append, show a + 4 * ((chksC W fr a c).length + (cbC W (a + 4 * (chksC W fr a c).length) c (fr c)).length) = a + 4 * (chksC W fr a c).length + 4 * (cbC W (a + 4 * (chksC W fr a c).length) c (fr c)).length by omega]
    exact this
end
end Go.Pat
