/- The main of the heap: what its pieces do. Plain: no program in sight. -/
import Derived.Test.YtlhenglopnipaaaGreatDoorRtHp
namespace Go.Pat
open Go Go.RowKit Go.Proofs
def UP (m m' : Nat → Nat) : Prop := ∀ x, 33816544 ≤ x → m' x = m x
theorem UP.refl (m : Nat → Nat) : UP m m := fun _ _ => rfl
theorem UP.trans {m m' m'' : Nat → Nat} (h : UP m m') (h2 : UP m' m'') : UP m m'' := fun x hx => (h2 x hx).trans (h x hx)
theorem UP.st (m : Nat → Nat) (a v n : Nat) (h : a + n ≤ 33816544) : UP m (stA m a v n) := fun x hx => by unfold stA; rw [if_neg (by omega)]
theorem UP.zero (m : Nat → Nat) (a n : Nat) (h : a + n ≤ 33816544) : UP m (zeroTo m a n) := fun x hx => by unfold zeroTo; rw [if_neg (by omega)]
theorem UP.keep {m m' : Nat → Nat} (h : keepM m m') : UP m m' := fun x hx => h x (.inr (by omega))
def freeC (a k w : Nat) : List In := [⟨14, 10, 2, 0, (8 * k : Nat)⟩, ⟨22, 11, 0, 0, (w : Nat)⟩, jalC 65796 (a + 8)]
def allocC (a i w : Nat) : List In := [⟨22, 10, 0, 0, (w : Nat)⟩, jalC 65672 (a + 4), ⟨21, 0, 2, 10, (8 * i : Nat)⟩]
def fillC (i j : Nat) : List In := [⟨14, 9, 10, 0, (8 * j : Nat)⟩, ⟨43, 18, 18, 9, 0⟩] ++ (liL 9 ((1000 * i + j + 1 : Nat) : Int) ++ [⟨21, 0, 10, 9, (8 * j : Nat)⟩])
theorem wrN_of (n : Nat) (h : n < 18446744073709551616) : wrN (n : Int) = n := by unfold wrN; omega
theorem tab_at (k : Nat) (hk : k < 40) : (33816032 + wrN (8 * k : Nat)) % 18446744073709551616 = tabA k := by
  rw [wrN_of _ (by omega)]
  unfold tabA
  omega
theorem tab_wr (k : Nat) (hk : k < 40) : wrB (tabA k) 8 = true := by
  unfold wrB tabA
  simp only [Bool.or_eq_true, Bool.and_eq_true, decide_eq_true_eq]
  omega
theorem hp_at (s j : Nat) (hs : s < 256) (hj : j < 64) : (hpA s + wrN (8 * j : Nat)) % 18446744073709551616 = hpA s + 8 * j := by
  rw [wrN_of _ (by omega)]
  unfold hpA
  omega
theorem hp_wr (s j : Nat) (hs : s < 256) (hj : j < 64) : wrB (hpA s + 8 * j) 8 = true := by
  unfold wrB hpA
  simp only [Bool.or_eq_true, Bool.and_eq_true, decide_eq_true_eq]
  omega
theorem at_2 (pre post : List Ins) (a b : Ins) : pre ++ a :: b :: post = (pre ++ [a]) ++ b :: post := by simp
theorem at_3 (pre post : List Ins) (a b c : Ins) : pre ++ a :: b :: c :: post = (pre ++ [a, b]) ++ c :: post := by simp
theorem or_zero : aluA 43 0 0 = 0 := by decide +kernel
section
variable {P rest : List Ins} {inp : List UInt8} {r m : Nat → Nat} {o : List UInt8} {q : Nat} {i u : Nat} {sl wd : Nat → Nat} {fr : Nat → Bool} {fl : List Nat}
/-- a block is given back. -/
theorem free_run (a k w : Nat) (pre post : List Ins) (hP : P = pre ++ ((freeC a k w).map In.ins ++ post)) (hR : P = rtP ++ rest) (ha : a = 65536 + 4 * pre.length) (hf : P.length ≤ 4177920) (hg : Good ⟨a, r, m, o, q⟩) (h2 : r 2 = 33816032) (hw : w ≤ 64)
    (hH : HI m i sl fr wd fl u) (hk : k < i) (hfr : fr k = false) :
    ∃ r', To P inp 10 ⟨a, r, m, o, q⟩ ⟨a + 12, r', stA (stA m (hpA (sl k)) (ldA m 16777216 8) 8) 16777216 (hpA (sl k)) 8, o, q⟩ ∧ r' 2 = r 2 ∧ r' 18 = r 18 := by
  have hz : r 0 = 0 := hg.z
  have hi := hH.i40
  have hu := hH.ui
  have hs := hH.slu k hk hfr
  have hpl : pre.length + 3 ≤ P.length := by rw [hP, List.length_append, List.length_append]; show _ ≤ pre.length + (3 + post.length); omega
  have e1 : P = pre ++ ⟨14, 10, 2, 0, (8 * k : Nat)⟩ :: (⟨22, 11, 0, 0, (w : Nat)⟩ :: (jalC 65796 (a + 8)).ins :: post) := hP
  have i1 : insAt P a = some ⟨14, 10, 2, 0, (8 * k : Nat)⟩ := by rw [e1]; exact insAt_mid _ _ _ _ ha
  have i2 : insAt P (a + 4) = some ⟨22, 11, 0, 0, (w : Nat)⟩ := by rw [e1, at_2]; exact insAt_mid _ _ _ _ (by rw [List.length_append, List.length_singleton]; omega)
  have hA : To P inp 2 ⟨a, r, m, o, q⟩ ⟨a + 8, up (up r 10 (hpA (sl k))) 11 w, m, o, q⟩ := by
    refine To.via (st_ld 10 2 _ i1 (tabA k) (by rw [h2]; exact tab_at k (by omega)) (tab_wr k (by omega))) ?_
    rw [hH.tab k hk]
    refine To.via (st_ai 22 11 0 _ (by decide) i2 w (alu_addi _ _ _ (by rw [up_ne _ _ _ _ (by decide), hz, wrN_of _ (by omega)]; omega))) ?_
    exact To.refl 0
  have hC := call_to (inp := inp) (r := up (up r 10 (hpA (sl k))) 11 w) (m := m) (o := o) (i := q) (pre ++ [⟨14, 10, 2, 0, (8 * k : Nat)⟩, ⟨22, 11, 0, 0, (w : Nat)⟩]) post 65796 (pc := a + 8) (e1.trans (at_3 _ _ _ _ _)) (by rw [List.length_append]; show _ = 65536 + 4 * (pre.length + 2); omega) (by decide)
  obtain ⟨r1, h1, k1⟩ := free_any rest inp (hpA (sl k)) (a + 8 + 4) (up (up (up r 10 (hpA (sl k))) 11 w) 1 (a + 8 + 4)) m o q hz rfl (by unfold hpA; omega) rfl (by omega) (by omega)
  rw [← hR] at h1
  refine ⟨r1, ((hA.trans (To.step hC)).trans h1).mono (by decide), ?_, ?_⟩
  · rw [k1 2 (by decide) (by decide) (by decide), up_ne _ _ _ _ (by decide), up_ne _ _ _ _ (by decide), up_ne _ _ _ _ (by decide)]
  · rw [k1 18 (by decide) (by decide) (by decide), up_ne _ _ _ _ (by decide), up_ne _ _ _ _ (by decide), up_ne _ _ _ _ (by decide)]
/-- a block is told. -/
theorem alloc_run (a w : Nat) (pre post : List Ins) (hP : P = pre ++ ((allocC a i w).map In.ins ++ post)) (hR : P = rtP ++ rest) (ha : a = 65536 + 4 * pre.length) (hf : P.length ≤ 4177920) (hg : Good ⟨a, r, m, o, q⟩) (h2 : r 2 = 33816032) (hw : w ≤ 64) (hi : i < 40)
    (hH : HI m i sl fr wd fl u) (hfr : fr i = false) :
    ∃ r' m' sl' fl' u', To P inp 400 ⟨a, r, m, o, q⟩ ⟨a + 12, r', m', o, q⟩ ∧ r' 2 = r 2 ∧ r' 18 = r 18 ∧ r' 10 = hpA (sl' i) ∧ UP m m' ∧ HI m' (i + 1) sl' fr (fun x => if x = i then 0 else wd x) fl' u' ∧ ∀ j, j < w → ldA m' (hpA (sl' i) + 8 * j) 8 = 0 := by
  have hz : r 0 = 0 := hg.z
  have hu := hH.ui
  have hpl : pre.length + 3 ≤ P.length := by rw [hP, List.length_append, List.length_append]; show _ ≤ pre.length + (3 + post.length); omega
  have e1 : P = pre ++ ⟨22, 10, 0, 0, (w : Nat)⟩ :: ((jalC 65672 (a + 4)).ins :: ⟨21, 0, 2, 10, (8 * i : Nat)⟩ :: post) := hP
  have i1 : insAt P a = some ⟨22, 10, 0, 0, (w : Nat)⟩ := by rw [e1]; exact insAt_mid _ _ _ _ ha
  have i3 : insAt P (a + 4 + 4) = some ⟨21, 0, 2, 10, (8 * i : Nat)⟩ := by rw [e1, at_3]; exact insAt_mid _ _ _ _ (by rw [List.length_append]; show _ = 65536 + 4 * (pre.length + 2); omega)
  have hA : To P inp 1 ⟨a, r, m, o, q⟩ ⟨a + 4, up r 10 w, m, o, q⟩ := To.step (st_ai 22 10 0 _ (by decide) i1 w (alu_addi _ _ _ (by rw [hz, wrN_of _ (by omega)]; omega)))
  have hC := call_to (inp := inp) (r := up r 10 w) (m := m) (o := o) (i := q) (pre ++ [⟨22, 10, 0, 0, (w : Nat)⟩]) (⟨21, 0, 2, 10, (8 * i : Nat)⟩ :: post) 65672 (pc := a + 4) (e1.trans (at_2 _ _ _ _)) (by rw [List.length_append, List.length_singleton]; omega) (by decide)
  have hD : ∀ (r1 m1 : Nat → Nat) (b : Nat), r1 2 = 33816032 → r1 10 = b → To P inp 1 ⟨a + 4 + 4, r1, m1, o, q⟩ ⟨a + 12, r1, stA m1 (tabA i) b 8, o, q⟩ := fun r1 m1 b f2 f10 => by
    have := st_sd (inp := inp) (r := r1) (m := m1) (o := o) (i := q) 2 10 _ i3 (tabA i) (by rw [f2]; exact tab_at i hi) (tab_wr i hi)
    rw [f10] at this
    exact To.step this
  cases fl with
  | nil =>
    have hc : ldA m 16777216 8 = 0 := hH.chain
    obtain ⟨r1, h1, k1, e10⟩ := alloc_fresh rest inp w u (a + 4 + 4) (up (up r 10 w) 1 (a + 4 + 4)) m o q hw hz rfl hc hH.use (by omega) rfl (by omega) (by omega)
    rw [← hR] at h1
    have f2 : r1 2 = r 2 := by rw [k1 2 (by decide) (by decide) (by decide) (by decide) (by decide), up_ne _ _ _ _ (by decide), up_ne _ _ _ _ (by decide)]
    have f18 : r1 18 = r 18 := by rw [k1 18 (by decide) (by decide) (by decide) (by decide) (by decide), up_ne _ _ _ _ (by decide), up_ne _ _ _ _ (by decide)]
    obtain ⟨g1, g2⟩ := hH.new w hw hfr hi _ rfl
    refine ⟨r1, _, _, _, _, (((hA.trans (To.step hC)).trans h1).trans (hD r1 _ _ (f2.trans h2) e10)).mono (by omega), f2, f18, ?_, ?_, g1, fun j hj => ?_⟩
    · rw [if_pos rfl]; exact e10
    · exact ((UP.st _ _ _ _ (by decide)).trans (UP.zero _ _ _ (by omega))).trans (UP.st _ _ _ _ (by unfold tabA; omega))
    · rw [if_pos rfl]; exact g2 j hj
  | cons s fl =>
    have hc : ldA m 16777216 8 = hpA s := hH.chain.1
    obtain ⟨g1, g2, g3⟩ := hH.again w hw hfr hi _ rfl
    obtain ⟨r1, h1, k1, e10⟩ := alloc_list rest inp w (hpA s) (a + 4 + 4) (up (up r 10 w) 1 (a + 4 + 4)) m o q hw hz rfl hc (by unfold hpA; omega) rfl (by omega) (by omega)
    rw [← hR] at h1
    have f2 : r1 2 = r 2 := by rw [k1 2 (by decide) (by decide) (by decide) (by decide) (by decide), up_ne _ _ _ _ (by decide), up_ne _ _ _ _ (by decide)]
    have f18 : r1 18 = r 18 := by rw [k1 18 (by decide) (by decide) (by decide) (by decide) (by decide), up_ne _ _ _ _ (by decide), up_ne _ _ _ _ (by decide)]
    refine ⟨r1, _, _, _, _, (((hA.trans (To.step hC)).trans h1).trans (hD r1 _ _ (f2.trans h2) e10)).mono (by omega), f2, f18, ?_, ?_, g1, fun j hj => ?_⟩
    · rw [if_pos rfl]; exact e10
    · exact ((UP.st _ _ _ _ (by decide)).trans (UP.zero _ _ _ (by unfold hpA; omega))).trans (UP.st _ _ _ _ (by unfold tabA; omega))
    · rw [if_pos rfl]; exact g2 j hj
end
end Go.Pat
