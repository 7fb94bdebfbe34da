/- The main of the heap: its items and how they lie. Plain: no program in sight. -/
import Derived.Test.YtlhenglopnipaaaGreatDoorRtHu
namespace Go.Pat
open Go Go.RowKit Go.Proofs
def okC (c : In) : Bool := (rightI c.op c.rd c.a c.b c.n && backB c) && (decide (-9223372036854775808 ≤ c.n) && decide (c.n < 9223372036854775808))
def insIt (c : In) : It := ⟨2, no, c.op, c.rd, c.a, c.b, c.n⟩
theorem lay_ok (at_ : Nat) (ha : at_ ≤ 1100000) (c : In) (h : okC c = true) : Lay at_ [insIt c] [c] := by
  unfold okC at h
  simp only [Bool.and_eq_true, decide_eq_true_eq] at h
  exact Lay.ins at_ ha c.op c.rd c.a c.b c.n h.1.1 (back_of h.1.2) h.2
theorem ok_ld10 : ∀ k, k < 64 → okC ⟨14, 10, 2, 0, (8 * k : Nat)⟩ = true := by decide +kernel
theorem ok_ld9 : ∀ k, k < 64 → okC ⟨14, 9, 2, 0, (8 * k : Nat)⟩ = true := by decide +kernel
theorem ok_ld9x : ∀ k, k < 64 → okC ⟨14, 9, 10, 0, (8 * k : Nat)⟩ = true := by decide +kernel
theorem ok_ld10x : ∀ k, k < 64 → okC ⟨14, 10, 9, 0, (8 * k : Nat)⟩ = true := by decide +kernel
theorem ok_sd2 : ∀ k, k < 64 → okC ⟨21, 0, 2, 10, (8 * k : Nat)⟩ = true := by decide +kernel
theorem ok_sd10 : ∀ k, k < 64 → okC ⟨21, 0, 10, 9, (8 * k : Nat)⟩ = true := by decide +kernel
theorem lay_alloc (at_ : Nat) (ha : 65536 ≤ at_ ∧ at_ ≤ 1100000) (h4 : at_ % 4 = 0) : Lay at_ [callI nmAlloc] [jalC 65672 at_] :=
  Lay.call at_ ha h4 nmAlloc 65672 (by decide +kernel) (by decide) (by decide +kernel) (by decide)
theorem lay_free (at_ : Nat) (ha : 65536 ≤ at_ ∧ at_ ≤ 1100000) (h4 : at_ % 4 = 0) : Lay at_ [callI nmFree] [jalC 65796 at_] :=
  Lay.call at_ ha h4 nmFree 65796 (by decide +kernel) (by decide) (by decide +kernel) (by decide)
def freeL (k w : Nat) : List It := [insIt ⟨14, 10, 2, 0, (8 * k : Nat)⟩, liIt 11 (w : Nat), callI nmFree]
def hpAllocL (i w : Nat) : List It := [liIt 10 (w : Nat), callI nmAlloc, insIt ⟨21, 0, 2, 10, (8 * i : Nat)⟩]
def fillL (i j : Nat) : List It := [insIt ⟨14, 9, 10, 0, (8 * j : Nat)⟩, insIt ⟨43, 18, 18, 9, 0⟩, liIt 9 (1000 * i + j + 1 : Nat), insIt ⟨21, 0, 10, 9, (8 * j : Nat)⟩]
def fillsL (i : Nat) : Nat → List It
  | 0 => []
  | j + 1 => fillsL i j ++ fillL i j
theorem lay_freeL (a k w : Nat) (ha : 65536 ≤ a ∧ a ≤ 1099900) (h4 : a % 4 = 0) (hk : k < 40) (hw : w ≤ 64) : Lay a (freeL k w) (freeC a k w) := by
  have h1 : (liL 11 (w : Nat)) = [⟨22, 11, 0, 0, (w : Nat)⟩] := liL_small _ _ ⟨by omega, by omega⟩
  have h2 := Lay.li (a + 4 * 1) (by omega) 11 (w : Nat) (by decide) ⟨by omega, by omega⟩
  rw [h1] at h2
  exact (lay_ok a (by omega) ⟨14, 10, 2, 0, (8 * k : Nat)⟩ (ok_ld10 k (by omega))).app (h2.app (lay_free (a + 4 * 1 + 4 * 1) ⟨by omega, by omega⟩ (by omega)))
theorem lay_allocL (a i w : Nat) (ha : 65536 ≤ a ∧ a ≤ 1099900) (h4 : a % 4 = 0) (hi : i < 40) (hw : w ≤ 64) : Lay a (hpAllocL i w) (allocC a i w) := by
  have h1 : (liL 10 (w : Nat)) = [⟨22, 10, 0, 0, (w : Nat)⟩] := liL_small _ _ ⟨by omega, by omega⟩
  have h2 := Lay.li a (by omega) 10 (w : Nat) (by decide) ⟨by omega, by omega⟩
  rw [h1] at h2
  exact h2.app ((lay_alloc (a + 4 * 1) ⟨by omega, by omega⟩ (by omega)).app (lay_ok (a + 4 * 1 + 4 * 1) (by omega) ⟨21, 0, 2, 10, (8 * i : Nat)⟩ (ok_sd2 i (by omega))))
theorem lay_fillL (a i j : Nat) (ha : a ≤ 1099900) (hi : i < 40) (hj : j < 64) : Lay a (fillL i j) (fillC i j) := by
  have hl : (liL 9 ((1000 * i + j + 1 : Nat) : Int)).length ≤ 12 := liM_len 6 _ _
  exact ((lay_ok a (by omega) ⟨14, 9, 10, 0, (8 * j : Nat)⟩ (ok_ld9x j hj)).app (lay_ok (a + 4 * 1) (by omega) ⟨43, 18, 18, 9, 0⟩ (by decide +kernel))).app ((Lay.li (a + 4 * 2) (by omega) 9 ((1000 * i + j + 1 : Nat) : Int) (by decide) ⟨by omega, by omega⟩).app (lay_ok _ (by omega) ⟨21, 0, 10, 9, (8 * j : Nat)⟩ (ok_sd10 j hj)))
theorem fillC_len (i j : Nat) : (fillC i j).length ≤ 15 := by
  have hl : (liL 9 ((1000 * i + j + 1 : Nat) : Int)).length ≤ 12 := liM_len 6 _ _
  unfold fillC
  rw [List.length_append, List.length_append]
  show 2 + (_ + 1) ≤ 15
  omega
theorem fillsC_len (i : Nat) : ∀ j, (fillsC i j).length ≤ 15 * j
  | 0 => Nat.le_refl _
  | j + 1 => by
    have h1 := fillsC_len i j
    have h2 := fillC_len i j
    rw [fillsC, List.length_append]
    omega
theorem lay_fills (a i : Nat) (hi : i < 40) : ∀ w, w ≤ 64 → a + 60 * w ≤ 1099900 → Lay a (fillsL i w) (fillsC i w)
  | 0, _, _ => Lay.nil a
  | j + 1, h1, h2 => by
    have := fillsC_len i j
    exact (lay_fills a i hi j (by omega) (by omega)).app (lay_fillL _ i j (by omega) hi (by omega))
section
variable (W : Nat → Nat) (kb : Nat → (Nat → Bool) → Option Nat)
def freeOL : Option Nat → List It
  | none => []
  | some k => freeL k (W k)
def heapL : Nat → List It
  | 0 => []
  | i + 1 => ((heapL i ++ freeOL W (kb i (frF kb i))) ++ hpAllocL i (W i)) ++ fillsL i (W i)
def chkL (i : Nat) : Nat → List It
  | 0 => []
  | c + 1 => chkL i c ++ [insIt ⟨14, 9, 2, 0, (8 * i : Nat)⟩, insIt ⟨14, 10, 9, 0, (8 * (7 * c) : Nat)⟩, callI nmPrint]
def cbL (i : Nat) : Bool → List It
  | true => []
  | false => [insIt ⟨14, 10, 2, 0, (8 * i : Nat)⟩, insIt ⟨27, 10, 10, 0, 7⟩, callI nmPrint] ++ chkL i ((W i + 6) / 7)
def chksL (fr : Nat → Bool) : Nat → List It
  | 0 => []
  | i + 1 => chksL fr i ++ cbL W i (fr i)
def hpL (n : Nat) : List It := keptL (((([insIt ⟨22, 2, 2, 0, -512⟩] ++ heapL W kb n) ++ [insIt ⟨22, 10, 18, 0, 0⟩, callI nmPrint]) ++ chksL W (frF kb n) n) ++ [insIt ⟨22, 2, 2, 0, 512⟩])
end
section
variable {W : Nat → Nat} {kb : Nat → (Nat → Bool) → Option Nat}
theorem freeOC_len (a : Nat) (o : Option Nat) : (freeOC W a o).length ≤ 3 := by
  cases o with
  | none => exact Nat.zero_le _
  | some k => exact Nat.le_refl _
theorem blkC_len (hW : ∀ k, W k ≤ 64) (a i : Nat) : (blkC W kb a i).length ≤ 966 := by
  have h1 := freeOC_len (W := W) a (kb i (frF kb i))
  have h2 := fillsC_len i (W i)
  have h3 := hW i
  unfold blkC
  rw [List.length_append, List.length_append]
  show _ + (3 + _) ≤ _
  omega
theorem heapC_len (hW : ∀ k, W k ≤ 64) (a : Nat) : ∀ i, (heapC W kb a i).length ≤ 966 * i
  | 0 => Nat.le_refl _
  | i + 1 => by
    have h1 := heapC_len hW a i
    have h2 := blkC_len (kb := kb) hW (a + 4 * (heapC W kb a i).length) i
    rw [heapC, List.length_append]
    omega
theorem cbC_len (hW : ∀ k, W k ≤ 64) (a i : Nat) (b : Bool) : (cbC W a i b).length ≤ 33 := by
  have h3 := hW i
  cases b with
  | true => exact Nat.zero_le _
  | false =>
    rw [cbC, List.length_append, chkC_len]
    show 3 + _ ≤ _
    omega
theorem chksC_len (hW : ∀ k, W k ≤ 64) (fr : Nat → Bool) (a : Nat) : ∀ i, (chksC W fr a i).length ≤ 33 * i
  | 0 => Nat.le_refl _
  | i + 1 => by
    have h1 := chksC_len hW fr a i
    have h2 := cbC_len hW (a + 4 * (chksC W fr a i).length) i (fr i)
    rw [chksC, List.length_append]
    omega
theorem lay_heap (hW : ∀ k, W k ≤ 64) (hk : ∀ i f k, kb i f = some k → k < i ∧ f k = false) (a : Nat) (ha : 65536 ≤ a ∧ a ≤ 70000) (h4 : a % 4 = 0) : ∀ i, i ≤ 40 → Lay a (heapL W kb i) (heapC W kb a i)
  | 0, _ => Lay.nil a
  | i + 1, hi => by
    have h1 := heapC_len (kb := kb) hW a i
    have h2 := hW i
    have h3 := freeOC_len (W := W) (a + 4 * (heapC W kb a i).length) (kb i (frF kb i))
    have hF : Lay (a + 4 * (heapC W kb a i).length) (freeOL W (kb i (frF kb i))) (freeOC W (a + 4 * (heapC W kb a i).length) (kb i (frF kb i))) := by
      cases e : kb i (frF kb i) with
      | none => exact Lay.nil _
      | some k =>
        have := (hk i _ k e).1
        exact lay_freeL _ k (W k) ⟨by omega, by omega⟩ (by omega) (by omega) (hW k)
    have := (lay_heap hW hk a ha h4 i (by omega)).app (hF.app ((lay_allocL _ i (W i) ⟨by omega, by omega⟩ (by omega) (by omega) h2).app (lay_fills _ i (by omega) (W i) h2 (by show _ + 4 * 3 + _ ≤ _; omega))))
    rw [heapL, heapC, blkC, List.append_assoc, List.append_assoc]
    exact this
theorem lay_chk (a i : Nat) (ha : 65536 ≤ a ∧ a ≤ 1000000) (h4 : a % 4 = 0) (hi : i < 40) : ∀ c, c ≤ 10 → Lay a (chkL i c) (chkC a i c)
  | 0, _ => Lay.nil a
  | c + 1, hc => by
    have hl := chkC_len a i c
    have := (lay_chk a i ha h4 hi c (by omega)).app ((lay_ok (a + 4 * (chkC a i c).length) (by omega) ⟨14, 9, 2, 0, (8 * i : Nat)⟩ (ok_ld9 i (by omega))).app ((lay_ok (a + 4 * (chkC a i c).length + 4 * 1) (by omega) ⟨14, 10, 9, 0, (8 * (7 * c) : Nat)⟩ (ok_ld10x (7 * c) (by omega))).app (lay_print (a + 4 * (chkC a i c).length + 4 * 1 + 4 * 1) ⟨by omega, by omega⟩ (by omega))))
    rw [show a + 4 * (chkC a i c).length + 4 * 1 + 4 * 1 = a + 12 * c + 8 by omega] at this
    exact this
theorem lay_cb (hW : ∀ k, W k ≤ 64) (a i : Nat) (ha : 65536 ≤ a ∧ a ≤ 900000) (h4 : a % 4 = 0) (hi : i < 40) (b : Bool) : Lay a (cbL W i b) (cbC W a i b) := by
  have h := hW i
  cases b with
  | true => exact Lay.nil a
  | false =>
    exact ((lay_ok a (by omega) ⟨14, 10, 2, 0, (8 * i : Nat)⟩ (ok_ld10 i (by omega))).app ((lay_ok (a + 4 * 1) (by omega) ⟨27, 10, 10, 0, 7⟩ (by decide +kernel)).app (lay_print (a + 4 * 1 + 4 * 1) ⟨by omega, by omega⟩ (by omega)))).app (lay_chk (a + 12) i ⟨by omega, by omega⟩ (by omega) hi _ (by omega))
theorem lay_chks (hW : ∀ k, W k ≤ 64) (fr : Nat → Bool) (a : Nat) (ha : 65536 ≤ a ∧ a ≤ 800000) (h4 : a % 4 = 0) : ∀ i, i ≤ 40 → Lay a (chksL W fr i) (chksC W fr a i)
  | 0, _ => Lay.nil a
  | i + 1, hi => by
    have h1 := chksC_len hW fr a i
    exact (lay_chks hW fr a ha h4 i (by omega)).app (lay_cb hW _ i ⟨by omega, by omega⟩ (by omega) (by omega) (fr i))
theorem lay_keptH : Lay 65856 keptHead keptHC :=
  (lay_ok 65856 (by decide) ⟨22, 2, 2, 0, -16⟩ (by decide +kernel)).app ((lay_ok 65860 (by decide) ⟨21, 0, 2, 9, 0⟩ (by decide +kernel)).app ((lay_ok 65864 (by decide) ⟨21, 0, 2, 18, 8⟩ (by decide +kernel)).app ((Lay.li 65868 (by decide) 9 0 (by decide) (by decide)).app (Lay.li 65872 (by decide) 18 0 (by decide) (by decide)))))
theorem lay_keptT (a : Nat) (ha : a ≤ 1000000) : Lay a keptTail keptTC :=
  (lay_ok a (by omega) ⟨14, 9, 2, 0, 0⟩ (by decide +kernel)).app ((lay_ok (a + 4 * 1) (by omega) ⟨14, 18, 2, 0, 8⟩ (by decide +kernel)).app (lay_ok (a + 4 * 1 + 4 * 1) (by omega) ⟨22, 2, 2, 0, 16⟩ (by decide +kernel)))
theorem hpC_len (hW : ∀ k, W k ≤ 64) (n : Nat) (hn : n ≤ 40) : (hpC W kb n).length ≤ 40000 := by
  have h1 := heapC_len (kb := kb) hW 65880 n
  have h2 := chksC_len hW (frF kb n) (heapE W kb n + 8) n
  unfold hpC
  simp only [List.length_append]
  show 5 + (((1 + _) + 2) + _ + 1) + 3 ≤ _
  omega
theorem lay_hp (hW : ∀ k, W k ≤ 64) (hk : ∀ i f k, kb i f = some k → k < i ∧ f k = false) (n : Nat) (hn : n ≤ 40) : Lay 65856 (hpL W kb n) (hpC W kb n) := by
  have h1 := heapC_len (kb := kb) hW 65880 n
  have h2 := chksC_len hW (frF kb n) (heapE W kb n + 8) n
  obtain ⟨A, hA⟩ : ∃ A, A = heapC W kb 65880 n := ⟨_, rfl⟩
  have he : heapE W kb n = 65880 + 4 * A.length := by rw [hA]; rfl
  have hAl := lay_heap hW hk 65880 (by decide) (by decide) n hn
  rw [← hA] at h1 hAl
  have hM : Lay 65876 ((([insIt ⟨22, 2, 2, 0, -512⟩] ++ heapL W kb n) ++ [insIt ⟨22, 10, 18, 0, 0⟩, callI nmPrint]) ++ chksL W (frF kb n) n) ((([⟨22, 2, 2, 0, -512⟩] ++ A) ++ [⟨22, 10, 18, 0, 0⟩, jalC 65564 (heapE W kb n + 4)]) ++ chksC W (frF kb n) (heapE W kb n + 8) n) := by
    have l1 := (lay_ok 65876 (by decide) ⟨22, 2, 2, 0, -512⟩ (by decide +kernel)).app hAl
    have l2 := (lay_ok (heapE W kb n) (by omega) ⟨22, 10, 18, 0, 0⟩ (by decide +kernel)).app (lay_print (heapE W kb n + 4 * 1) ⟨by omega, by omega⟩ (by omega))
    have hl : ([⟨22, 2, 2, 0, -512⟩] ++ A : List In).length = 1 + A.length := by rw [List.length_append]; rfl
    have e1 : heapE W kb n = 65876 + 4 * ([⟨22, 2, 2, 0, -512⟩] ++ A : List In).length := by rw [he, hl]; omega
    have l3 := lay_chks hW (frF kb n) (heapE W kb n + 8) ⟨by omega, by omega⟩ (by omega) n hn
    have l2' : Lay (65876 + 4 * ([⟨22, 2, 2, 0, -512⟩] ++ A : List In).length) [insIt ⟨22, 10, 18, 0, 0⟩, callI nmPrint] [⟨22, 10, 18, 0, 0⟩, jalC 65564 (heapE W kb n + 4)] := e1 ▸ l2
    refine (l1.app l2').app ?_
    rw [List.length_append, hl, show 65876 + 4 * (1 + A.length + [(⟨22, 10, 18, 0, 0⟩ : In), jalC 65564 (heapE W kb n + 4)].length) = heapE W kb n + 8 from by rw [he]; show 65876 + 4 * (1 + A.length + 2) = _; omega]
    exact l3
  unfold hpL keptL hpC
  rw [← hA]
  refine (lay_keptH.app (hM.app (lay_ok _ ?_ ⟨22, 2, 2, 0, 512⟩ (by decide +kernel)))).app (lay_keptT _ ?_)
  · simp only [List.length_append]
    show 65876 + 4 * (((1 + _) + 2) + _) ≤ _
    omega
  · simp only [List.length_append]
    show 65856 + 4 * (5 + ((((1 + _) + 2) + _) + 1)) ≤ _
    omega
theorem fillsL_len (i : Nat) : ∀ j, (fillsL i j).length = 4 * j
  | 0 => rfl
  | j + 1 => by rw [fillsL, List.length_append, fillsL_len i j]; rfl
theorem heapL_len (hW : ∀ k, W k ≤ 64) : ∀ i, (heapL W kb i).length ≤ 262 * i
  | 0 => Nat.le_refl _
  | i + 1 => by
    have h1 := heapL_len hW i
    have h2 := hW i
    have h3 : (freeOL W (kb i (frF kb i))).length ≤ 3 := by
      cases kb i (frF kb i) with
      | none => exact Nat.zero_le _
      | some k => exact Nat.le_refl _
    rw [heapL, List.length_append, List.length_append, List.length_append, fillsL_len]
    show _ + 3 + _ ≤ _
    omega
theorem chkL_len (i : Nat) : ∀ c, (chkL i c).length = 3 * c
  | 0 => rfl
  | c + 1 => by rw [chkL, List.length_append, chkL_len i c]; rfl
theorem chksL_len (hW : ∀ k, W k ≤ 64) (fr : Nat → Bool) : ∀ i, (chksL W fr i).length ≤ 33 * i
  | 0 => Nat.le_refl _
  | i + 1 => by
    have h1 := chksL_len hW fr i
    have h2 := hW i
    have h3 : (cbL W i (fr i)).length ≤ 33 := by
      cases fr i with
      | true => exact Nat.zero_le _
      | false =>
        rw [cbL, List.length_append, chkL_len]
        show 3 + _ ≤ _
        omega
    rw [chksL, List.length_append]
    omega
theorem hpL_len (hW : ∀ k, W k ≤ 64) (n : Nat) (hn : n ≤ 40) : (hpL W kb n).length ≤ 20000 := by
  have h1 := heapL_len (kb := kb) hW n
  have h2 := chksL_len hW (frF kb n) n
  unfold hpL keptL
  simp only [List.length_append]
  show 5 + (((1 + _) + 2) + _ + 1) + 3 ≤ _
  omega
/-- THE MAIN OF THE HEAP is assembled. -/
theorem heap_asmd (hW : ∀ k, W k ≤ 64) (hk : ∀ i f k, kb i f = some k → k < i ∧ f k = false) (n : Nat) (hn : n ≤ 40) : Asmd (hpL W kb n) (hpC W kb n) :=
  (lay_hp hW hk n hn).asmd (Nat.le_trans (hpL_len hW n hn) (by decide)) (Nat.le_trans (hpC_len hW n hn) (by decide))
end
end Go.Pat
