/- The main of the heap: words are filled, blocks one behind the other. Plain: no program in sight. -/
import Derived.Test.YtlhenglopnipaaaGreatDoorRtHr
namespace Go.Pat
open Go Go.RowKit Go.Proofs
section
variable {P rest : List Ins} {inp : List UInt8} {r m : Nat → Nat} {o : List UInt8} {q : Nat} {i u : Nat} {sl wd : Nat → Nat} {fr : Nat → Bool} {fl : List Nat}
/-- a word is looked at and written. -/
theorem fill_run (a j : Nat) (pre post : List Ins) (hP : P = pre ++ ((fillC i j).map In.ins ++ post)) (ha : a = 65536 + 4 * pre.length) (hg : Good ⟨a, r, m, o, q⟩) (h10 : r 10 = hpA (sl i)) (h18 : r 18 = 0) (hj : j < 64)
    (hH : HI m (i + 1) sl fr wd fl u) (hfr : fr i = false) (h0 : ldA m (hpA (sl i) + 8 * j) 8 = 0) :
    ∃ r', To P inp 15 ⟨a, r, m, o, q⟩ ⟨a + 4 * (fillC i j).length, r', stA m (hpA (sl i) + 8 * j) (1000 * i + j + 1) 8, o, q⟩ ∧ r' 2 = r 2 ∧ r' 18 = 0 ∧ r' 10 = r 10 := by
  have hz : r 0 = 0 := hg.z
  have hi := hH.i40
  have hu := hH.ui
  have hs := hH.slu i (by omega) hfr
  obtain ⟨C, hC⟩ : ∃ C, C = liL ((9 : Nat) : Int) ((1000 * i + j + 1 : Nat) : Int) := ⟨_, rfl⟩
  have hlen : (fillC i j).length = C.length + 3 := by
    unfold fillC
    rw [List.length_append, List.length_append, hC]
    show 2 + ((liL 9 _).length + 1) = (liL 9 _).length + 3
    omega
  have e1 : P = pre ++ ⟨14, 9, 10, 0, (8 * j : Nat)⟩ :: ⟨43, 18, 18, 9, 0⟩ :: (C.map In.ins ++ ⟨21, 0, 10, 9, (8 * j : Nat)⟩ :: post) := by
    rw [hP, hC]
    unfold fillC
    simp only [List.map_append, List.append_assoc, List.map_cons, List.cons_append, List.nil_append, List.map_nil]
    rfl
  have i1 : insAt P a = some ⟨14, 9, 10, 0, (8 * j : Nat)⟩ := by rw [e1]; exact insAt_mid _ _ _ _ ha
  have i2 : insAt P (a + 4) = some ⟨43, 18, 18, 9, 0⟩ := by rw [e1, at_2]; exact insAt_mid _ _ _ _ (by rw [List.length_append, List.length_singleton]; omega)
  have e3 : P = (pre ++ [⟨14, 9, 10, 0, (8 * j : Nat)⟩, ⟨43, 18, 18, 9, 0⟩]) ++ (C.map In.ins ++ ⟨21, 0, 10, 9, (8 * j : Nat)⟩ :: post) := by rw [e1]; simp only [List.append_assoc, List.cons_append, List.nil_append]
  have hA : To P inp 2 ⟨a, r, m, o, q⟩ ⟨a + 8, up (up r 9 0) 18 0, m, o, q⟩ := by
    refine To.via (st_ld 9 10 _ i1 (hpA (sl i) + 8 * j) (by rw [h10]; exact hp_at _ _ (by omega) hj) (hp_wr _ _ (by omega) hj)) ?_
    rw [h0]
    refine To.via (st_ar 43 18 18 9 (by decide) i2 0 (by rw [up_ne _ _ _ _ (by decide), h18, up_eq _ _ _ (by decide)]; exact or_zero)) ?_
    exact To.refl 0
  obtain ⟨r1, h1, f9, k1⟩ := mid_to (inp := inp) (r := up (up r 9 0) 18 0) (m := m) (o := o) (i := q) (pc := a + 8) _ _ 9 (by decide) ((1000 * i + j + 1 : Nat) : Int) ⟨by omega, by omega⟩ e3 hC (by rw [List.length_append]; show _ = 65536 + 4 * (pre.length + 2); omega) hz (by show (0 : Nat) < _; decide)
  rw [wrN_of _ (by omega)] at f9
  have i4 : insAt P (a + 8 + 4 * C.length) = some ⟨21, 0, 10, 9, (8 * j : Nat)⟩ := by
    rw [e3, ← List.append_assoc]
    exact insAt_mid _ _ _ _ (by rw [List.length_append, List.length_append, List.length_map]; show _ = 65536 + 4 * (pre.length + 2 + C.length); omega)
  have f10 : r1 10 = r 10 := by rw [k1 10 (by decide), up_ne _ _ _ _ (by decide), up_ne _ _ _ _ (by decide)]
  have hD := st_sd (inp := inp) (r := r1) (m := m) (o := o) (i := q) 10 9 _ i4 (hpA (sl i) + 8 * j) (by rw [f10, h10]; exact hp_at _ _ (by omega) hj) (hp_wr _ _ (by omega) hj)
  rw [f9] at hD
  refine ⟨r1, ?_, ?_, ?_, f10⟩
  · have := (hA.trans h1).trans (To.step hD)
    rw [hlen, show a + 4 * (C.length + 3) = a + 8 + 4 * C.length + 4 by omega]
    exact this
  · rw [k1 2 (by decide), up_ne _ _ _ _ (by decide), up_ne _ _ _ _ (by decide)]
  · rw [k1 18 (by decide)]; rfl
def fillsC (i : Nat) : Nat → List In
  | 0 => []
  | j + 1 => fillsC i j ++ fillC i j
/-- the words of a block. -/
theorem fills_run (a : Nat) (pre : List Ins) (hR : P = rtP ++ rest) (ha : a = 65536 + 4 * pre.length) (hf : P.length ≤ 4177920) (hg : Good ⟨a, r, m, o, q⟩) (h10 : r 10 = hpA (sl i)) (h18 : r 18 = 0) (w : Nat) (hw : w ≤ 64)
    (hH : HI m (i + 1) sl fr wd fl u) (hfr : fr i = false) (hwd : wd i = 0) (h0 : ∀ j, j < w → ldA m (hpA (sl i) + 8 * j) 8 = 0) : ∀ (c : Nat) (post : List Ins), c ≤ w → P = pre ++ ((fillsC i c).map In.ins ++ post) →
    ∃ r' m', To P inp (15 * c) ⟨a, r, m, o, q⟩ ⟨a + 4 * (fillsC i c).length, r', m', o, q⟩ ∧ r' 2 = r 2 ∧ r' 18 = 0 ∧ r' 10 = r 10 ∧ UP m m' ∧ HI m' (i + 1) sl fr (fun x => if x = i then c else wd x) fl u ∧ ∀ j, c ≤ j → j < w → ldA m' (hpA (sl i) + 8 * j) 8 = 0
  | 0, post, _, _ => by
    refine ⟨r, m, To.refl 0, rfl, h18, rfl, UP.refl _, ?_, fun j _ h => h0 j h⟩
    have e : (fun x => if x = i then 0 else wd x) = wd := by
      funext x
      split
      · rename_i e; rw [e, hwd]
      · rfl
    rw [e]
    exact hH
  | c + 1, post, hc, hP => by
    have e1 : P = pre ++ ((fillsC i c).map In.ins ++ ((fillC i c).map In.ins ++ post)) := by
      rw [hP, fillsC]
      simp only [List.map_append, List.append_assoc]
    obtain ⟨r1, m1, h1, f2, f18, f10, hU, hH1, z1⟩ := fills_run a pre hR ha hf hg h10 h18 w hw hH hfr hwd h0 c _ (by omega) e1
    have hg1 := h1.good hf hg
    have hi := hH.i40
    have hu := hH.ui
    have hs := hH.slu i (by omega) hfr
    obtain ⟨r2, h2, g2, g18, g10⟩ := fill_run (P := P) (inp := inp) (o := o) (q := q) (a + 4 * (fillsC i c).length) c (pre ++ (fillsC i c).map In.ins) post (by rw [e1]; simp only [List.append_assoc]) (by rw [List.length_append, List.length_map]; omega) hg1 (f10.trans h10) f18 (by omega) hH1 hfr (z1 c (Nat.le_refl _) (by omega))
    obtain ⟨hH2, z2⟩ := hH1.fill hfr c (by omega) (by simp) _ rfl
    refine ⟨r2, _, ?_, g2.trans f2, g18, g10.trans f10, hU.trans (UP.st _ _ _ _ (by unfold hpA; omega)), ?_, fun j h3 h4 => (z2 j (by omega) (by omega)).trans (z1 j (by omega) h4)⟩
    · have := h1.trans h2
      rw [fillsC, List.length_append, show a + 4 * ((fillsC i c).length + (fillC i c).length) = a + 4 * (fillsC i c).length + 4 * (fillC i c).length by omega]
      exact this
    · have e : (fun x => if x = i then c + 1 else if x = i then c else wd x) = fun x => if x = i then c + 1 else wd x := by
        funext x
        split <;> rfl
      rw [← e]
      exact hH2
end
/- the main's blocks: how many words each has, and which is given back ahead of it. -/
section
variable (W : Nat → Nat) (kb : Nat → (Nat → Bool) → Option Nat)
def frU (f : Nat → Bool) : Option Nat → Nat → Bool
  | none => f
  | some k => fun x => if x = k then true else f x
def frF : Nat → Nat → Bool
  | 0 => fun _ => false
  | i + 1 => frU (frF i) (kb i (frF i))
def freeOC (a : Nat) : Option Nat → List In
  | none => []
  | some k => freeC a k (W k)
def blkC (a i : Nat) : List In := freeOC W a (kb i (frF kb i)) ++ (allocC (a + 4 * (freeOC W a (kb i (frF kb i))).length) i (W i) ++ fillsC i (W i))
def heapC (a : Nat) : Nat → List In
  | 0 => []
  | i + 1 => heapC a i ++ blkC W kb (a + 4 * (heapC a i).length) i
theorem frF_above (hk : ∀ i f k, kb i f = some k → k < i ∧ f k = false) : ∀ i x, i ≤ x → frF kb i x = false
  | 0, _, _ => rfl
  | i + 1, x, h => by
    show frU _ _ _ = false
    cases e : kb i (frF kb i) with
    | none => exact frF_above hk i x (by omega)
    | some k =>
      have := (hk i _ k e).1
      show (if x = k then true else frF kb i x) = false
      rw [if_neg (by omega)]
      exact frF_above hk i x (by omega)
end
section
variable {W : Nat → Nat} {kb : Nat → (Nat → Bool) → Option Nat} {P rest : List Ins} {inp : List UInt8} {o : List UInt8} {q : Nat}
/-- what the main knows behind i blocks. -/
def HS (W : Nat → Nat) (m : Nat → Nat) (i : Nat) (fr : Nat → Bool) : Prop := ∃ sl wd fl u, HI m i sl fr wd fl u ∧ ∀ k, k < i → wd k = W k
theorem block_run (hW : ∀ k, W k ≤ 64) (hk : ∀ i f k, kb i f = some k → k < i ∧ f k = false) (hR : P = rtP ++ rest) (hf : P.length ≤ 4177920) (a i : Nat) (hi : i < 40) (pre post : List Ins) (r m : Nat → Nat) (hP : P = pre ++ ((blkC W kb a i).map In.ins ++ post)) (ha : a = 65536 + 4 * pre.length) (hg : Good ⟨a, r, m, o, q⟩) (h2 : r 2 = 33816032) (h18 : r 18 = 0)
    (hH : HS W m i (frF kb i)) :
    ∃ r' m', To P inp 1370 ⟨a, r, m, o, q⟩ ⟨a + 4 * (blkC W kb a i).length, r', m', o, q⟩ ∧ r' 2 = 33816032 ∧ r' 18 = 0 ∧ UP m m' ∧ HS W m' (i + 1) (frF kb (i + 1)) := by
  obtain ⟨sl, wd, fl, u, hI, hw⟩ := hH
  obtain ⟨C1, hC1⟩ : ∃ C1, C1 = freeOC W a (kb i (frF kb i)) := ⟨_, rfl⟩
  obtain ⟨fr2, hfr2⟩ : ∃ f, f = frF kb (i + 1) := ⟨_, rfl⟩
  have e1 : P = pre ++ (C1.map In.ins ++ ((allocC (a + 4 * C1.length) i (W i)).map In.ins ++ ((fillsC i (W i)).map In.ins ++ post))) := by
    rw [hP, blkC, ← hC1]
    simp only [List.map_append, List.append_assoc]
  have hf0 : fr2 i = false := by
    rw [hfr2]
    show frU _ _ _ = false
    cases e : kb i (frF kb i) with
    | none => exact frF_above kb hk i i (Nat.le_refl _)
    | some k =>
      have := (hk i _ k e).1
      show (if i = k then true else frF kb i i) = false
      rw [if_neg (by omega)]
      exact frF_above kb hk i i (Nat.le_refl _)
  have hA : ∃ r1 m1 fl1, To P inp 10 ⟨a, r, m, o, q⟩ ⟨a + 4 * C1.length, r1, m1, o, q⟩ ∧ r1 2 = r 2 ∧ r1 18 = r 18 ∧ UP m m1 ∧ HI m1 i sl fr2 wd fl1 u := by
    cases e : kb i (frF kb i) with
    | none =>
      rw [e] at hC1
      rw [hC1, hfr2]
      refine ⟨r, m, fl, To.refl _, rfl, rfl, UP.refl _, ?_⟩
      show HI m i sl (frU _ (kb i (frF kb i))) wd fl u
      rw [e]
      exact hI
    | some k =>
      obtain ⟨hk1, hk2⟩ := hk i _ k e
      rw [e] at hC1
      have hl : C1.length = 3 := by rw [hC1]; rfl
      rw [hl, hfr2]
      have hii := hI.i40
      have huu := hI.ui
      have hss := hI.slu k hk1 hk2
      obtain ⟨r1, h1, f2, f18⟩ := free_run (P := P) (inp := inp) (o := o) (q := q) a k (W k) pre ((allocC (a + 4 * C1.length) i (W i)).map In.ins ++ ((fillsC i (W i)).map In.ins ++ post)) (by rw [e1, hC1]; rfl) hR ha hf hg h2 (hW k) hI hk1 hk2
      refine ⟨r1, _, sl k :: fl, h1, f2, f18, (UP.st _ _ _ _ (by unfold hpA; omega)).trans (UP.st _ _ _ _ (by decide)), ?_⟩
      show HI _ i sl (frU _ (kb i (frF kb i))) wd _ u
      rw [e]
      exact hI.free k hk1 hk2
  obtain ⟨r1, m1, fl1, h1, f2, f18, hU1, hI1⟩ := hA
  have hg1 := h1.good hf hg
  obtain ⟨r2, m2, sl2, fl2, u2, hB, g2, g18, g10, hU2, hI2, z2⟩ := alloc_run (P := P) (inp := inp) (o := o) (q := q) (a + 4 * C1.length) (W i) (pre ++ C1.map In.ins) ((fillsC i (W i)).map In.ins ++ post) (by rw [e1]; simp only [List.append_assoc]) hR (by rw [List.length_append, List.length_map]; omega) hf hg1 (f2.trans h2) (hW i) hi hI1 hf0
  have hg2 := hB.good hf hg1
  obtain ⟨r3, m3, hC, k2, k18, -, hU3, hI3, -⟩ := fills_run (P := P) (inp := inp) (o := o) (q := q) (a + 4 * C1.length + 12) ((pre ++ C1.map In.ins) ++ (allocC (a + 4 * C1.length) i (W i)).map In.ins) hR (by rw [List.length_append, List.length_append, List.length_map, List.length_map]; show _ = 65536 + 4 * (pre.length + C1.length + 3); omega) hf hg2 g10 (g18.trans (f18.trans h18)) (W i) (hW i) hI2 hf0 (by simp) z2 (W i) post (Nat.le_refl _) (by rw [e1]; simp only [List.append_assoc])
  have hwi := hW i
  refine ⟨r3, m3, ?_, k2.trans (g2.trans (f2.trans h2)), k18, (hU1.trans hU2).trans hU3, ?_⟩
  · have := ((h1.trans hB).trans hC).mono (M := 1370) (by omega)
    have hl : (blkC W kb a i).length = C1.length + (3 + (fillsC i (W i)).length) := by
      unfold blkC
      rw [← hC1, List.length_append, List.length_append]
      rfl
    rw [hl, show a + 4 * (C1.length + (3 + (fillsC i (W i)).length)) = a + 4 * C1.length + 12 + 4 * (fillsC i (W i)).length by omega]
    exact this
  · rw [hfr2] at hI3
    refine ⟨sl2, _, fl2, u2, hI3, fun k hk => ?_⟩
    by_cases e : k = i
    · simp [e]
    · simp only [if_neg e]
      exact hw k (by omega)
/-- all the blocks. -/
theorem blocks_run (hW : ∀ k, W k ≤ 64) (hk : ∀ i f k, kb i f = some k → k < i ∧ f k = false) (hR : P = rtP ++ rest) (hf : P.length ≤ 4177920) (a : Nat) (pre : List Ins) (r m : Nat → Nat) (ha : a = 65536 + 4 * pre.length) (hg : Good ⟨a, r, m, o, q⟩) (h2 : r 2 = 33816032) (h18 : r 18 = 0) (hH : HS W m 0 (fun _ => false)) : ∀ (i : Nat) (post : List Ins), i ≤ 40 → P = pre ++ ((heapC W kb a i).map In.ins ++ post) →
    ∃ r' m', To P inp (1370 * i) ⟨a, r, m, o, q⟩ ⟨a + 4 * (heapC W kb a i).length, r', m', o, q⟩ ∧ r' 2 = 33816032 ∧ r' 18 = 0 ∧ UP m m' ∧ HS W m' i (frF kb i)
  | 0, post, _, _ => ⟨r, m, To.refl 0, h2, h18, UP.refl _, hH⟩
  | i + 1, post, hi, hP => by
    have e1 : P = pre ++ ((heapC W kb a i).map In.ins ++ ((blkC W kb (a + 4 * (heapC W kb a i).length) i).map In.ins ++ post)) := by
      rw [hP, heapC]
      simp only [List.map_append, List.append_assoc]
    obtain ⟨r1, m1, h1, f2, f18, hU, hS⟩ := blocks_run hW hk hR hf a pre r m ha hg h2 h18 hH i _ (by omega) e1
    have hg1 := h1.good hf hg
    obtain ⟨r2, m2, hB, g2, g18, hU2, hS2⟩ := block_run (P := P) (inp := inp) (o := o) (q := q) hW hk hR hf (a + 4 * (heapC W kb a i).length) i (by omega) (pre ++ (heapC W kb a i).map In.ins) post r1 m1 (by rw [e1]; simp only [List.append_assoc]) (by rw [List.length_append, List.length_map]; omega) hg1 f2 f18 hS
    refine ⟨r2, m2, ?_, g2, g18, hU.trans hU2, hS2⟩
    have := h1.trans hB
    rw [heapC, List.length_append, show a + 4 * ((heapC W kb a i).length + (blkC W kb (a + 4 * (heapC W kb a i).length) i).length) = a + 4 * (heapC W kb a i).length + 4 * (blkC W kb (a + 4 * (heapC W kb a i).length) i).length by omega]
    exact this
end
end Go.Pat
