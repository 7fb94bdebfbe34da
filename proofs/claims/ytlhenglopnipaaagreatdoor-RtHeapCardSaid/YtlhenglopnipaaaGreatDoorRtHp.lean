/- The heap: blocks that are told, given back and told again; what is kept in memory. Plain: no program in sight. -/
import Derived.Test.YtlhenglopnipaaaGreatDoorRtRm
namespace Go.Pat
open Go Go.RowKit Go.Proofs
def hpA (s : Nat) : Nat := 16777264 + 512 * s
/-- the blocks that were given back hang together so. -/
def FL (m : Nat → Nat) : Nat → List Nat → Prop
  | h, [] => h = 0
  | h, s :: r => h = hpA s ∧ FL m (ldA m (hpA s) 8) r
theorem FL.frame {m m' : Nat → Nat} : ∀ {l : List Nat} {h : Nat}, FL m h l → (∀ s ∈ l, ldA m' (hpA s) 8 = ldA m (hpA s) 8) → FL m' h l
  | [], _, h1, _ => h1
  | s :: r, _, h1, h2 => ⟨h1.1, by rw [h2 s (by simp)]; exact FL.frame h1.2 fun x hx => h2 x (by simp [hx])⟩
/-- where a main's table of blocks lies. -/
def tabA (k : Nat) : Nat := 33816032 + 8 * k
/-- the heap behind i blocks: their places, which were given back, how many words they have, the free ones, how many are in use. -/
structure HI (m : Nat → Nat) (i : Nat) (sl : Nat → Nat) (fr : Nat → Bool) (wd : Nat → Nat) (fl : List Nat) (u : Nat) : Prop where
  chain : FL m (ldA m 16777216 8) fl
  use : ldA m 16777224 8 = u
  ui : u ≤ i
  i40 : i ≤ 40
  w64 : ∀ k, wd k ≤ 64
  tab : ∀ k, k < i → ldA m (tabA k) 8 = hpA (sl k)
  con : ∀ k, k < i → fr k = false → ∀ j, j < wd k → ldA m (hpA (sl k) + 8 * j) 8 = 1000 * k + j + 1
  slu : ∀ k, k < i → fr k = false → sl k < u
  flu : ∀ s ∈ fl, s < u
  nod : fl.Nodup
  dis : ∀ k k', k < i → k' < i → fr k = false → fr k' = false → k ≠ k' → sl k ≠ sl k'
  out : ∀ k, k < i → fr k = false → sl k ∉ fl
section
variable {m m' : Nat → Nat} {i u : Nat} {sl wd : Nat → Nat} {fr : Nat → Bool} {fl : List Nat}
/-- what is changed elsewhere changes nothing of it. -/
theorem HI.frame (h : HI m i sl fr wd fl u) (h0 : ldA m' 16777216 8 = ldA m 16777216 8) (h1 : ldA m' 16777224 8 = ldA m 16777224 8) (h2 : ∀ k, k < i → ldA m' (tabA k) 8 = ldA m (tabA k) 8) (h3 : ∀ s j, s < u → j < 64 → ldA m' (hpA s + 8 * j) 8 = ldA m (hpA s + 8 * j) 8) : HI m' i sl fr wd fl u := by
  refine ⟨?_, h1.trans h.use, h.ui, h.i40, h.w64, fun k hk => (h2 k hk).trans (h.tab k hk), fun k hk hf j hj => ?_, h.slu, h.flu, h.nod, h.dis, h.out⟩
  · rw [h0]
    exact h.chain.frame fun s hs => by have := h3 s 0 (h.flu s hs) (by decide); simpa using this
  · have := h.w64 k
    exact (h3 _ j (h.slu k hk hf) (by omega)).trans (h.con k hk hf j hj)
theorem HI.keep (h : HI m i sl fr wd fl u) (hk : keepM m m') : HI m' i sl fr wd fl u := by
  have hi := h.i40
  have hu := h.ui
  refine h.frame ?_ ?_ ?_ ?_
  · exact ldA_same 8 fun x _ _ => hk x (by omega)
  · exact ldA_same 8 fun x _ _ => hk x (by omega)
  · exact fun k hk2 => ldA_same 8 fun x h1 _ => hk x (.inr (by unfold tabA at h1; omega))
  · exact fun s j _ _ => ldA_same 8 fun x h1 _ => hk x (.inr (by unfold hpA at h1; omega))
/-- a block is given back. -/
theorem HI.free (h : HI m i sl fr wd fl u) (k : Nat) (hk : k < i) (hf : fr k = false) :
    HI (stA (stA m (hpA (sl k)) (ldA m 16777216 8) 8) 16777216 (hpA (sl k)) 8) i sl (fun x => if x = k then true else fr x) wd (sl k :: fl) u := by
  have hu := h.ui
  have hi := h.i40
  have hsu := h.slu k hk hf
  have hhd : ldA m 16777216 8 < 18446744073709551616 := by
    cases hfl : fl with
    | nil => have := h.chain; rw [hfl] at this; rw [show ldA m 16777216 8 = 0 from this]; decide
    | cons s r => have := h.chain; rw [hfl] at this; rw [this.1]; have := h.flu s (by rw [hfl]; simp); unfold hpA; omega
  have hb : hpA (sl k) < 18446744073709551616 := by unfold hpA; omega
  refine ⟨?_, ?_, hu, hi, h.w64, fun k2 hk2 => ?_, fun k2 hk2 hf2 j hj => ?_, fun k2 hk2 hf2 => ?_, fun s hs => ?_, List.nodup_cons.2 ⟨h.out k hk hf, h.nod⟩, fun k2 k3 a b c d e => ?_, fun k2 hk2 hf2 hm => ?_⟩
  · rw [ldA_st8 _ _ _ hb]
    refine ⟨rfl, ?_⟩
    rw [ldA_st_ne _ _ _ _ _ _ (by unfold hpA; omega), ldA_st8 _ _ _ hhd]
    refine h.chain.frame fun s hs => ?_
    have hne : s ≠ sl k := fun e => h.out k hk hf (e ▸ hs)
    rw [ldA_st_ne _ _ _ _ _ _ (by unfold hpA; omega), ldA_st_ne _ _ _ _ _ _ (by unfold hpA; omega)]
  · rw [ldA_st_ne _ _ _ _ _ _ (by decide), ldA_st_ne _ _ _ _ _ _ (by unfold hpA; omega)]; exact h.use
  · rw [ldA_st_ne _ _ _ _ _ _ (by unfold tabA; omega), ldA_st_ne _ _ _ _ _ _ (by unfold hpA tabA; omega)]; exact h.tab k2 hk2
  · have hk2k : k2 ≠ k := fun e => by simp [e] at hf2
    rw [if_neg hk2k] at hf2
    have hne := h.dis k2 k hk2 hk hf2 hf hk2k
    have hw := h.w64 k2
    rw [ldA_st_ne _ _ _ _ _ _ (by unfold hpA; omega), ldA_st_ne _ _ _ _ _ _ (by unfold hpA; omega)]
    exact h.con k2 hk2 hf2 j hj
  · have hk2k : k2 ≠ k := fun e => by simp [e] at hf2
    rw [if_neg hk2k] at hf2
    exact h.slu k2 hk2 hf2
  · rcases List.mem_cons.1 hs with rfl | hs
    · exact hsu
    · exact h.flu s hs
  · have a2 : k2 ≠ k := fun e => by simp [e] at c
    have a3 : k3 ≠ k := fun e => by simp [e] at d
    rw [if_neg a2] at c
    rw [if_neg a3] at d
    exact h.dis k2 k3 a b c d e
  · have a2 : k2 ≠ k := fun e => by simp [e] at hf2
    rw [if_neg a2] at hf2
    rcases List.mem_cons.1 hm with e | hm
    · exact h.dis k2 k hk2 hk hf2 hf a2 e
    · exact h.out k2 hk2 hf2 hm
theorem ldA_zero_in (m : Nat → Nat) (a n b k : Nat) (h : a ≤ b ∧ b + k ≤ a + n) : ldA (zeroTo m a n) b k = 0 := by
  have e : ∀ k, b + k ≤ a + n → ldA (zeroTo m a n) b k = 0 := by
    intro k
    induction k with
    | zero => intro _; rfl
    | succ k ih =>
      intro hk
      rw [ldA, ih (by omega)]
      unfold zeroTo
      rw [if_pos (by omega), Nat.zero_mul]
  exact e k h.2
/-- a block that was given back is told again. -/
theorem HI.again {s : Nat} (h : HI m i sl fr wd (s :: fl) u) (w : Nat) (hw : w ≤ 64) (hf : fr i = false) (hi : i < 40) (v : Nat) (hv : v = hpA s) :
    HI (stA (zeroTo (stA m 16777216 (ldA m (hpA s) 8) 8) (hpA s) (8 * w)) (tabA i) v 8) (i + 1) (fun x => if x = i then s else sl x) fr (fun x => if x = i then 0 else wd x) fl u ∧
    (∀ j, j < w → ldA (stA (zeroTo (stA m 16777216 (ldA m (hpA s) 8) 8) (hpA s) (8 * w)) (tabA i) v 8) (hpA s + 8 * j) 8 = 0) ∧ s < u := by
  subst hv
  have hu := h.ui
  have hsu : s < u := h.flu s (by simp)
  have hnod := List.nodup_cons.1 h.nod
  have hnx : ldA m (hpA s) 8 < 18446744073709551616 := by
    have hc := h.chain.2
    cases hfl : fl with
    | nil => rw [hfl] at hc; rw [show ldA m (hpA s) 8 = 0 from hc]; decide
    | cons q r => rw [hfl] at hc; rw [hc.1]; have := h.flu q (by rw [hfl]; simp); unfold hpA; omega
  have hb : hpA s < 18446744073709551616 := by unfold hpA; omega
  have far : ∀ s2 j, s2 ≠ s → s2 < u → j < 64 → ldA (stA (zeroTo (stA m 16777216 (ldA m (hpA s) 8) 8) (hpA s) (8 * w)) (tabA i) (hpA s) 8) (hpA s2 + 8 * j) 8 = ldA m (hpA s2 + 8 * j) 8 := fun s2 j hne h2 hj => by
    rw [ldA_st_ne _ _ _ _ _ _ (by unfold hpA tabA; omega), ldA_zero_ne _ _ _ _ _ (by unfold hpA; omega), ldA_st_ne _ _ _ _ _ _ (by unfold hpA; omega)]
  refine ⟨⟨?_, ?_, by omega, by omega, fun k => ?_, fun k hk => ?_, fun k hk hfk j hj => ?_, fun k hk hfk => ?_, fun q hq => h.flu q (by simp [hq]), hnod.2, fun k k2 a b c d e => ?_, fun k hk hfk hm => ?_⟩, fun j hj => ?_, hsu⟩
  · rw [ldA_st_ne _ _ _ _ _ _ (by unfold tabA; omega), ldA_zero_ne _ _ _ _ _ (by unfold hpA; omega), ldA_st8 _ _ _ hnx]
    refine h.chain.2.frame fun q hq => ?_
    have hne : q ≠ s := fun e => hnod.1 (e ▸ hq)
    have := far q 0 hne (h.flu q (by simp [hq])) (by decide)
    simpa using this
  · rw [ldA_st_ne _ _ _ _ _ _ (by unfold tabA; omega), ldA_zero_ne _ _ _ _ _ (by unfold hpA; omega), ldA_st_ne _ _ _ _ _ _ (by decide)]; exact h.use
  · show (if k = i then 0 else wd k) ≤ 64
    split
    · decide
    · exact h.w64 k
  · show _ = hpA (if k = i then s else sl k)
    by_cases e : k = i
    · subst e
      rw [if_pos rfl, ldA_st8 _ _ _ hb]
    · rw [if_neg e, ldA_st_ne _ _ _ _ _ _ (by unfold tabA; omega), ldA_zero_ne _ _ _ _ _ (by unfold hpA tabA; omega), ldA_st_ne _ _ _ _ _ _ (by unfold tabA; omega)]
      exact h.tab k (by omega)
  · by_cases e : k = i
    · simp [e] at hj
    · simp only [if_neg e] at hj ⊢
      have hne : sl k ≠ s := fun e2 => h.out k (by omega) hfk (by rw [e2]; simp)
      have hwk := h.w64 k
      rw [far _ j hne (h.slu k (by omega) hfk) (by omega)]
      exact h.con k (by omega) hfk j hj
  · show (if k = i then s else sl k) < u
    split
    · exact hsu
    · exact h.slu k (by omega) hfk
  · show (if k = i then s else sl k) ≠ (if k2 = i then s else sl k2)
    by_cases e1 : k = i
    · rw [if_pos e1, if_neg (fun e2 => e (e1.trans e2.symm))]
      exact fun e2 => h.out k2 (by omega) d (by rw [← e2]; simp)
    · rw [if_neg e1]
      by_cases e2 : k2 = i
      · rw [if_pos e2]
        exact fun e3 => h.out k (by omega) c (by rw [e3]; simp)
      · rw [if_neg e2]
        exact h.dis k k2 (by omega) (by omega) c d e
  · by_cases e : k = i
    · simp only [if_pos e] at hm
      exact hnod.1 hm
    · simp only [if_neg e] at hm
      exact h.out k (by omega) hfk (by simp [hm])
  · rw [ldA_st_ne _ _ _ _ _ _ (by unfold hpA tabA; omega)]
    exact ldA_zero_in _ _ _ _ _ (by omega)
/-- a block is told that was never used. -/
theorem HI.new (h : HI m i sl fr wd [] u) (w : Nat) (hw : w ≤ 64) (hf : fr i = false) (hi : i < 40) (v : Nat) (hv : v = hpA u) :
    HI (stA (zeroTo (stA m 16777224 (u + 1) 8) (hpA u) (8 * w)) (tabA i) v 8) (i + 1) (fun x => if x = i then u else sl x) fr (fun x => if x = i then 0 else wd x) [] (u + 1) ∧
    (∀ j, j < w → ldA (stA (zeroTo (stA m 16777224 (u + 1) 8) (hpA u) (8 * w)) (tabA i) v 8) (hpA u + 8 * j) 8 = 0) := by
  subst hv
  have hu := h.ui
  have hb : hpA u < 18446744073709551616 := by unfold hpA; omega
  have far : ∀ s2 j, s2 < u → j < 64 → ldA (stA (zeroTo (stA m 16777224 (u + 1) 8) (hpA u) (8 * w)) (tabA i) (hpA u) 8) (hpA s2 + 8 * j) 8 = ldA m (hpA s2 + 8 * j) 8 := fun s2 j h2 hj => by
    rw [ldA_st_ne _ _ _ _ _ _ (by unfold hpA tabA; omega), ldA_zero_ne _ _ _ _ _ (by unfold hpA; omega), ldA_st_ne _ _ _ _ _ _ (by unfold hpA; omega)]
  refine ⟨⟨?_, ?_, by omega, by omega, fun k => ?_, fun k hk => ?_, fun k hk hfk j hj => ?_, fun k hk hfk => ?_, (by simp), List.nodup_nil, fun k k2 a b c d e => ?_, (by simp)⟩, fun j hj => ?_⟩
  · show ldA _ 16777216 8 = 0
    rw [ldA_st_ne _ _ _ _ _ _ (by unfold tabA; omega), ldA_zero_ne _ _ _ _ _ (by unfold hpA; omega), ldA_st_ne _ _ _ _ _ _ (by decide)]
    exact h.chain
  · rw [ldA_st_ne _ _ _ _ _ _ (by unfold tabA; omega), ldA_zero_ne _ _ _ _ _ (by unfold hpA; omega), ldA_st8 _ _ _ (by omega)]
  · show (if k = i then 0 else wd k) ≤ 64
    split
    · decide
    · exact h.w64 k
  · show _ = hpA (if k = i then u else sl k)
    by_cases e : k = i
    · subst e
      rw [if_pos rfl, ldA_st8 _ _ _ hb]
    · rw [if_neg e, ldA_st_ne _ _ _ _ _ _ (by unfold tabA; omega), ldA_zero_ne _ _ _ _ _ (by unfold hpA tabA; omega), ldA_st_ne _ _ _ _ _ _ (by unfold tabA; omega)]
      exact h.tab k (by omega)
  · by_cases e : k = i
    · simp [e] at hj
    · simp only [if_neg e] at hj ⊢
      have hwk := h.w64 k
      rw [far _ j (h.slu k (by omega) hfk) (by omega)]
      exact h.con k (by omega) hfk j hj
  · show (if k = i then u else sl k) < u + 1
    split
    · omega
    · have := h.slu k (by omega) hfk; omega
  · show (if k = i then u else sl k) ≠ (if k2 = i then u else sl k2)
    by_cases e1 : k = i
    · rw [if_pos e1, if_neg (fun e2 => e (e1.trans e2.symm))]
      have := h.slu k2 (by omega) d
      omega
    · rw [if_neg e1]
      by_cases e2 : k2 = i
      · rw [if_pos e2]
        have := h.slu k (by omega) c
        omega
      · rw [if_neg e2]
        exact h.dis k k2 (by omega) (by omega) c d e
  · rw [ldA_st_ne _ _ _ _ _ _ (by unfold hpA tabA; omega)]
    exact ldA_zero_in _ _ _ _ _ (by omega)
/-- a word is written into the newest block, behind those that are there. -/
theorem HI.fill (h : HI m (i + 1) sl fr wd fl u) (hf : fr i = false) (j : Nat) (hj : j < 64) (hw : wd i = j) (z : Nat) (hz : z = 1000 * i + j + 1) :
    HI (stA m (hpA (sl i) + 8 * j) z 8) (i + 1) sl fr (fun x => if x = i then j + 1 else wd x) fl u ∧ ∀ q, j < q → q < 64 → ldA (stA m (hpA (sl i) + 8 * j) z 8) (hpA (sl i) + 8 * q) 8 = ldA m (hpA (sl i) + 8 * q) 8 := by
  subst hz
  have hu := h.ui
  have hi := h.i40
  have hsi := h.slu i (by omega) hf
  refine ⟨⟨?_, ?_, hu, hi, fun k => ?_, fun k hk => ?_, fun k hk hfk q hq => ?_, h.slu, h.flu, h.nod, h.dis, h.out⟩, fun q h1 h2 => ?_⟩
  · rw [ldA_st_ne _ _ _ _ _ _ (by unfold hpA; omega)]
    refine h.chain.frame fun s hs => ?_
    have hne : s ≠ sl i := fun e => h.out i (by omega) hf (e ▸ hs)
    rw [ldA_st_ne _ _ _ _ _ _ (by unfold hpA; omega)]
  · rw [ldA_st_ne _ _ _ _ _ _ (by unfold hpA; omega)]; exact h.use
  · show (if k = i then j + 1 else wd k) ≤ 64
    split
    · omega
    · exact h.w64 k
  · rw [ldA_st_ne _ _ _ _ _ _ (by unfold hpA tabA; omega)]; exact h.tab k hk
  · by_cases e : k = i
    · subst e
      simp only [if_pos] at hq
      by_cases e2 : q = j
      · subst e2
        rw [ldA_st8 _ _ _ (by omega)]
      · rw [ldA_st_ne _ _ _ _ _ _ (by omega)]
        exact h.con k hk hfk q (by omega)
    · simp only [if_neg e] at hq
      have hne := h.dis k i hk (by omega) hfk hf e
      have hwk := h.w64 k
      rw [ldA_st_ne _ _ _ _ _ _ (by unfold hpA; omega)]
      exact h.con k hk hfk q hq
  · rw [ldA_st_ne _ _ _ _ _ _ (by omega)]
end
end Go.Pat
