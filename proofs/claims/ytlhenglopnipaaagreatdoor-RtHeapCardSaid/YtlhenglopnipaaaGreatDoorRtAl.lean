/- rt.alloc and rt.free on the plain machine. Plain: no program in sight. -/
import Derived.Test.YtlhenglopnipaaaGreatDoorRtLY
namespace Go.Pat
open Go Go.RowKit Go.Proofs
section
variable (rest : List Ins) (inp : List UInt8)
/-- bytes from there on are 0. -/
def zeroTo (m : Nat → Nat) (a n : Nat) : Nat → Nat := fun x => if a ≤ x ∧ x < a + n then 0 else m x
theorem zero_st (m : Nat → Nat) (a n : Nat) : zeroTo (stA m a 0 8) (a + 8) n = zeroTo m a (8 + n) := by
  funext x
  unfold zeroTo stA
  by_cases h1 : a + 8 ≤ x ∧ x < a + 8 + n
  · rw [if_pos h1, if_pos (by omega)]
  · rw [if_neg h1]
    by_cases h2 : a ≤ x ∧ x < a + 8
    · rw [if_pos h2, if_pos (by omega), Nat.zero_div, Nat.zero_mod]
    · rw [if_neg h2, if_neg (by omega)]
theorem zero_nil (m : Nat → Nat) (a : Nat) : zeroTo m a 0 = m := by
  funext x
  unfold zeroTo
  rw [if_neg (by omega)]
theorem clear_loop (o : List UInt8) (i : Nat) : ∀ (k p : Nat) (r m : Nat → Nat), k ≤ 64 → r 0 = 0 → r 10 = k → r 28 = p → 16777216 ≤ p → p + 8 * k ≤ 16908336 →
    ∃ r', To (rtP ++ rest) inp (5 * k + 1) ⟨65756, r, m, o, i⟩ ⟨65776, r', zeroTo m p (8 * k), o, i⟩ ∧ (∀ x, x ≠ 10 → x ≠ 28 → r' x = r x)
  | 0, p, r, m, _, h0, h10, _, _, _ => by
    rw [Nat.mul_zero, zero_nil]
    exact ⟨r, To.via (st_br 5 10 0 20 (by decide) rfl true (by show decide (r 10 = r 0) = true; rw [h0, h10]; decide) 65776 (by decide)) (To.refl 0), fun _ _ _ => rfl⟩
  | k + 1, p, r, m, hk, h0, h10, h28, hp, hq => by
    have wm16 : wrN (-16) = 18446744073709551600 := by decide
    have hA : To (rtP ++ rest) inp 5 ⟨65756, r, m, o, i⟩ ⟨65756, up (up (up r 28 (p + 8)) 10 k) 0 65776, stA m p 0 8, o, i⟩ := by
      refine To.via (st_br 5 10 0 20 (by decide) rfl false (by show decide (r 10 = r 0) = false; rw [h0, h10]; exact decide_eq_false (by omega)) 65760 rfl) ?_
      refine To.via (st_sd 28 0 0 rfl p (by rw [h28, show wrN 0 = 0 by decide]; omega) (by simp [wrB]; omega)) ?_
      rw [h0]
      refine To.via (st_ai 22 28 28 8 (by decide) rfl (p + 8) (alu_addi _ _ _ (by rw [h28, show wrN 8 = 8 by decide]; omega))) ?_
      refine To.via (st_ai 22 10 10 (-1) (by decide) rfl k (alu_addi _ _ _ (by rw [up_ne _ _ _ _ (by decide), h10, show wrN (-1) = 18446744073709551615 by decide]; omega))) ?_
      refine To.via (st_jal 0 (-16) rfl 65756 (by rw [wm16])) ?_
      exact To.refl 0
    obtain ⟨r', h1, h2⟩ := clear_loop o i k (p + 8) (up (up (up r 28 (p + 8)) 10 k) 0 65776) (stA m p 0 8) (by omega) rfl rfl rfl (by omega) (by omega)
    rw [zero_st, show 8 + 8 * k = 8 * (k + 1) by omega] at h1
    refine ⟨r', (hA.trans h1).mono (by omega), fun x a b => ?_⟩
    rw [h2 x a b]
    by_cases e : x = 0
    · subst e; exact h0.symm
    · rw [up_ne _ _ _ _ e, up_ne _ _ _ _ a, up_ne _ _ _ _ b]
/-- from rt.clear on: the block at b is cleared and told. -/
theorem clear_told (k b ret : Nat) (r m : Nat → Nat) (o : List UInt8) (i : Nat) (hk : k ≤ 64) (h0 : r 0 = 0) (h10 : r 10 = k) (h6 : r 6 = b) (hb : 16777216 ≤ b ∧ b + 512 ≤ 16908336) (h1 : r 1 = ret) (hr : ret < 18446744073709551616) (hr2 : ret % 2 = 0) :
    ∃ r', To (rtP ++ rest) inp (5 * k + 4) ⟨65752, r, m, o, i⟩ ⟨ret, r', zeroTo m b (8 * k), o, i⟩ ∧ (∀ x, x ≠ 10 → x ≠ 28 → r' x = r x) ∧ r' 10 = b := by
  have hA : To (rtP ++ rest) inp 1 ⟨65752, r, m, o, i⟩ ⟨65756, up r 28 b, m, o, i⟩ :=
    To.step (st_ar 35 28 6 0 (by decide) rfl b (alu_add _ _ _ (by rw [h6, h0]; omega)))
  obtain ⟨r1, h2, k2⟩ := clear_loop rest inp o i k b (up r 28 b) m hk h0 h10 rfl hb.1 (by omega)
  have z1 : r1 0 = 0 := (k2 0 (by decide) (by decide)).trans h0
  have hB : To (rtP ++ rest) inp 2 ⟨65776, r1, zeroTo m b (8 * k), o, i⟩ ⟨ret, up (up r1 10 b) 0 65784, zeroTo m b (8 * k), o, i⟩ := by
    refine To.via (st_ar 35 10 6 0 (by decide) rfl b (alu_add _ _ _ (by rw [k2 6 (by decide) (by decide), up_ne _ _ _ _ (by decide), h6, z1]; omega))) ?_
    refine To.via (st_jalr 0 1 0 rfl ret (by
      rw [up_ne _ _ _ _ (by decide), k2 1 (by decide) (by decide), up_ne _ _ _ _ (by decide), h1, show wrN 0 = 0 by decide]
      omega)) ?_
    exact To.refl 0
  refine ⟨_, ((hA.trans h2).trans hB).mono (by omega), fun x a c => ?_, rfl⟩
  by_cases e : x = 0
  · subst e; exact h0.symm
  · rw [up_ne _ _ _ _ e, up_ne _ _ _ _ a, k2 x a c, up_ne _ _ _ _ c]
theorem alloc_head (k : Nat) (r m : Nat → Nat) (o : List UInt8) (i : Nat) (hk : k ≤ 64) (h0 : r 0 = 0) (h10 : r 10 = k) :
    To (rtP ++ rest) inp 5 ⟨65672, r, m, o, i⟩ ⟨65692, up (up (up (up r 5 64) 5 16777360) 5 16777216) 6 (ldA m 16777216 8), m, o, i⟩ := by
  refine To.via (st_ai 22 5 0 64 (by decide) rfl 64 (alu_addi _ _ _ (by rw [h0]; decide))) ?_
  refine To.via (st_br 9 5 10 108 (by decide) rfl false (by
    show decide (up r 5 64 5 < up r 5 64 10) = false
    rw [up_eq _ _ _ (by decide), up_ne _ _ _ _ (by decide), h10]
    exact decide_eq_false (by omega)) 65680 rfl) ?_
  refine To.via (st_aui 5 4080 rfl 16777360 (by decide)) ?_
  refine To.via (st_ai 22 5 5 (-144) (by decide) rfl 16777216 (alu_addi _ _ _ (by rw [up_eq _ _ _ (by decide)]; decide))) ?_
  refine To.via (st_ld 6 5 0 rfl 16777216 (by rw [up_eq _ _ _ (by decide)]; decide) (by decide)) ?_
  exact To.refl 0
/-- rt.alloc, where a block was given back. -/
theorem alloc_list (k b ret : Nat) (r m : Nat → Nat) (o : List UInt8) (i : Nat) (hk : k ≤ 64) (h0 : r 0 = 0) (h10 : r 10 = k) (hl : ldA m 16777216 8 = b) (hb : 16777216 ≤ b ∧ b + 512 ≤ 16908336) (h1 : r 1 = ret) (hr : ret < 18446744073709551616) (hr2 : ret % 2 = 0) :
    ∃ r', To (rtP ++ rest) inp (5 * k + 13) ⟨65672, r, m, o, i⟩ ⟨ret, r', zeroTo (stA m 16777216 (ldA m b 8) 8) b (8 * k), o, i⟩ ∧ (∀ x, x ≠ 5 → x ≠ 6 → x ≠ 7 → x ≠ 10 → x ≠ 28 → r' x = r x) ∧ r' 10 = b := by
  have hA := alloc_head rest inp k r m o i hk h0 h10
  rw [hl] at hA
  have hB : To (rtP ++ rest) inp 4 ⟨65692, up (up (up (up r 5 64) 5 16777360) 5 16777216) 6 b, m, o, i⟩ ⟨65752, up (up (up (up (up (up r 5 64) 5 16777360) 5 16777216) 6 b) 7 (ldA m b 8)) 0 65708, stA m 16777216 (ldA m b 8) 8, o, i⟩ := by
    refine To.via (st_br 5 6 0 16 (by decide) rfl false (by
      show decide (up (up (up (up r 5 64) 5 16777360) 5 16777216) 6 b 6 = up (up (up (up r 5 64) 5 16777360) 5 16777216) 6 b 0) = false
      rw [up_eq _ _ _ (by decide), up_ne _ _ _ _ (by decide), up_ne _ _ _ _ (by decide), up_ne _ _ _ _ (by decide), up_ne _ _ _ _ (by decide), h0]
      exact decide_eq_false (by omega)) 65696 rfl) ?_
    refine To.via (st_ld 7 6 0 rfl b (by rw [up_eq _ _ _ (by decide), show wrN 0 = 0 by decide]; omega) (by simp [wrB]; omega)) ?_
    refine To.via (st_sd 5 7 0 rfl 16777216 (by rw [up_ne _ _ _ _ (by decide), up_ne _ _ _ _ (by decide), up_eq _ _ _ (by decide)]; decide) (by decide)) ?_
    rw [show up (up (up (up (up r 5 64) 5 16777360) 5 16777216) 6 b) 7 (ldA m b 8) 7 = ldA m b 8 from up_eq _ _ _ (by decide)]
    refine To.via (st_jal 0 48 rfl 65752 (by decide)) ?_
    exact To.refl 0
  obtain ⟨r1, h2, k2, e2⟩ := clear_told rest inp k b ret (up (up (up (up (up (up r 5 64) 5 16777360) 5 16777216) 6 b) 7 (ldA m b 8)) 0 65708) (stA m 16777216 (ldA m b 8) 8) o i hk rfl h10 rfl hb h1 hr hr2
  refine ⟨r1, ((hA.trans hB).trans h2).mono (by omega), fun x x5 x6 x7 x10 x28 => ?_, e2⟩
  rw [k2 x x10 x28]
  by_cases e : x = 0
  · subst e; exact h0.symm
  · rw [up_ne _ _ _ _ e, up_ne _ _ _ _ x7, up_ne _ _ _ _ x6, up_ne _ _ _ _ x5, up_ne _ _ _ _ x5, up_ne _ _ _ _ x5]
theorem fresh_head (k u : Nat) (r m : Nat → Nat) (o : List UInt8) (i : Nat) (hk : k ≤ 64) (h0 : r 0 = 0) (h10 : r 10 = k) (hl : ldA m 16777216 8 = 0) (hu : ldA m 16777224 8 = u) :
    ∃ r', To (rtP ++ rest) inp 10 ⟨65672, r, m, o, i⟩ ⟨65724, r', m, o, i⟩ ∧ (∀ x, x ≠ 5 → x ≠ 6 → x ≠ 7 → x ≠ 28 → r' x = r x) ∧ r' 5 = 16777224 ∧ r' 7 = u ∧ r' 28 = 256 := by
  have hA := alloc_head rest inp k r m o i hk h0 h10
  rw [hl] at hA
  obtain ⟨r1, hr1⟩ : ∃ r1, r1 = up (up (up (up r 5 64) 5 16777360) 5 16777216) 6 0 := ⟨_, rfl⟩
  have k1 : ∀ x, x ≠ 5 → x ≠ 6 → r1 x = r x := fun x x5 x6 => by rw [hr1, up_ne _ _ _ _ x6, up_ne _ _ _ _ x5, up_ne _ _ _ _ x5, up_ne _ _ _ _ x5]
  have e1 : r1 6 = 0 := by rw [hr1, up_eq _ _ _ (by decide)]
  have z1 : r1 0 = 0 := (k1 0 (by decide) (by decide)).trans h0
  rw [← hr1] at hA
  have hB : To (rtP ++ rest) inp 5 ⟨65692, r1, m, o, i⟩ ⟨65724, up (up (up (up r1 5 16777388) 5 16777224) 7 u) 28 256, m, o, i⟩ := by
    refine To.via (st_br 5 6 0 16 (by decide) rfl true (by
      show decide (r1 6 = r1 0) = true
      rw [e1, z1]
      decide) 65708 (by decide)) ?_
    refine To.via (st_aui 5 4080 rfl 16777388 (by decide)) ?_
    refine To.via (st_ai 22 5 5 (-164) (by decide) rfl 16777224 (alu_addi _ _ _ (by rw [up_eq _ _ _ (by decide)]; decide))) ?_
    refine To.via (st_ld 7 5 0 rfl 16777224 (by rw [up_eq _ _ _ (by decide)]; decide) (by decide)) ?_
    rw [hu]
    refine To.via (st_ai 22 28 0 256 (by decide) rfl 256 (alu_addi _ _ _ (by rw [up_ne _ _ _ _ (by decide), up_ne _ _ _ _ (by decide), up_ne _ _ _ _ (by decide), z1]; decide))) ?_
    exact To.refl 0
  refine ⟨_, (hA.trans hB).mono (by decide), fun x x5 x6 x7 x28 => ?_, rfl, rfl, rfl⟩
  rw [up_ne _ _ _ _ x28, up_ne _ _ _ _ x7, up_ne _ _ _ _ x5, up_ne _ _ _ _ x5, k1 x x5 x6]
/-- rt.alloc, a block that was never used. -/
theorem alloc_fresh (k u ret : Nat) (r m : Nat → Nat) (o : List UInt8) (i : Nat) (hk : k ≤ 64) (h0 : r 0 = 0) (h10 : r 10 = k) (hl : ldA m 16777216 8 = 0) (hu : ldA m 16777224 8 = u) (hu2 : u < 256) (h1 : r 1 = ret) (hr : ret < 18446744073709551616) (hr2 : ret % 2 = 0) :
    ∃ r', To (rtP ++ rest) inp (5 * k + 22) ⟨65672, r, m, o, i⟩ ⟨ret, r', zeroTo (stA m 16777224 (u + 1) 8) (16777264 + 512 * u) (8 * k), o, i⟩ ∧ (∀ x, x ≠ 5 → x ≠ 6 → x ≠ 7 → x ≠ 10 → x ≠ 28 → r' x = r x) ∧ r' 10 = 16777264 + 512 * u := by
  obtain ⟨r1, hA, k1, e5, e7, e28⟩ := fresh_head rest inp k u r m o i hk h0 h10 hl hu
  have z1 : r1 0 = 0 := (k1 0 (by decide) (by decide) (by decide) (by decide)).trans h0
  have hsl : aluA 28 u (wrN 9) = 512 * u := by
    have e := alu28 u 9 (by decide)
    have h2 : aluA 28 u (wrN 9) = (aluV 28 u (wrN ((9 : Nat) : Int))).toNat := (aluA_is 28 u (wrN 9) (by omega) (wrN_lt 9)).symm
    rw [h2]
    have p : (2 : Int) ^ 9 = 512 := by decide
    rw [p] at e
    omega
  have hB : To (rtP ++ rest) inp 7 ⟨65724, r1, m, o, i⟩ ⟨65752, up (up (up (up (up r1 28 (u + 1)) 7 (512 * u)) 6 16777420) 6 16777264) 6 (16777264 + 512 * u), stA m 16777224 (u + 1) 8, o, i⟩ := by
    refine To.via (st_br 10 7 28 60 (by decide) rfl false (by
      show decide (r1 28 ≤ r1 7) = false
      rw [e28, e7]
      exact decide_eq_false (by omega)) 65728 rfl) ?_
    refine To.via (st_ai 22 28 7 1 (by decide) rfl (u + 1) (alu_addi _ _ _ (by rw [e7, show wrN 1 = 1 by decide]; omega))) ?_
    refine To.via (st_sd 5 28 0 rfl 16777224 (by rw [up_ne _ _ _ _ (by decide), e5]; decide) (by decide)) ?_
    rw [up_eq r1 28 (u + 1) (by decide)]
    refine To.via (st_ai 28 7 7 9 (by decide) rfl (512 * u) (by rw [up_ne _ _ _ _ (by decide), e7]; exact hsl)) ?_
    refine To.via (st_aui 6 4080 rfl 16777420 (by decide)) ?_
    refine To.via (st_ai 22 6 6 (-156) (by decide) rfl 16777264 (alu_addi _ _ _ (by rw [up_eq _ _ _ (by decide)]; decide))) ?_
    refine To.via (st_ar 35 6 6 7 (by decide) rfl (16777264 + 512 * u) (alu_add _ _ _ (by rw [up_eq _ _ _ (by decide), up_ne _ _ _ _ (by decide), up_ne _ _ _ _ (by decide), up_eq _ _ _ (by decide)]; omega))) ?_
    exact To.refl 0
  obtain ⟨r2, h2, k2, e2⟩ := clear_told rest inp k (16777264 + 512 * u) ret (up (up (up (up (up r1 28 (u + 1)) 7 (512 * u)) 6 16777420) 6 16777264) 6 (16777264 + 512 * u)) (stA m 16777224 (u + 1) 8) o i hk z1 ((k1 10 (by decide) (by decide) (by decide) (by decide)).trans h10) rfl ⟨by omega, by omega⟩ ((k1 1 (by decide) (by decide) (by decide) (by decide)).trans h1) hr hr2
  refine ⟨r2, ((hA.trans hB).trans h2).mono (by omega), fun x x5 x6 x7 x10 x28 => ?_, e2⟩
  rw [k2 x x10 x28, up_ne _ _ _ _ x6, up_ne _ _ _ _ x6, up_ne _ _ _ _ x6, up_ne _ _ _ _ x7, up_ne _ _ _ _ x28, k1 x x5 x6 x7 x28]
/-- rt.free. -/
theorem free_any (b ret : Nat) (r m : Nat → Nat) (o : List UInt8) (i : Nat) (h0 : r 0 = 0) (h10 : r 10 = b) (hb : 16777216 ≤ b ∧ b + 512 ≤ 16908336) (h1 : r 1 = ret) (hr : ret < 18446744073709551616) (hr2 : ret % 2 = 0) :
    ∃ r', To (rtP ++ rest) inp 7 ⟨65796, r, m, o, i⟩ ⟨ret, r', stA (stA m b (ldA m 16777216 8) 8) 16777216 b 8, o, i⟩ ∧ (∀ x, x ≠ 5 → x ≠ 6 → x ≠ 10 → r' x = r x) := by
  have hA : To (rtP ++ rest) inp 7 ⟨65796, r, m, o, i⟩ ⟨ret, up (up (up (up (up r 5 16777476) 5 16777216) 6 (ldA m 16777216 8)) 10 0) 0 65824, stA (stA m b (ldA m 16777216 8) 8) 16777216 b 8, o, i⟩ := by
    refine To.via (st_aui 5 4080 rfl 16777476 (by decide)) ?_
    refine To.via (st_ai 22 5 5 (-260) (by decide) rfl 16777216 (alu_addi _ _ _ (by rw [up_eq _ _ _ (by decide)]; decide))) ?_
    refine To.via (st_ld 6 5 0 rfl 16777216 (by rw [up_eq _ _ _ (by decide)]; decide) (by decide)) ?_
    refine To.via (st_sd 10 6 0 rfl b (by rw [up_ne _ _ _ _ (by decide), up_ne _ _ _ _ (by decide), up_ne _ _ _ _ (by decide), h10, show wrN 0 = 0 by decide]; omega) (by simp [wrB]; omega)) ?_
    rw [up_eq _ 6 (ldA m 16777216 8) (by decide)]
    refine To.via (st_sd 5 10 0 rfl 16777216 (by rw [up_ne _ _ _ _ (by decide), up_eq _ _ _ (by decide)]; decide) (by decide)) ?_
    rw [show up (up (up r 5 16777476) 5 16777216) 6 (ldA m 16777216 8) 10 = b by rw [up_ne _ _ _ _ (by decide), up_ne _ _ _ _ (by decide), up_ne _ _ _ _ (by decide), h10]]
    refine To.via (st_ai 22 10 0 0 (by decide) rfl 0 (alu_addi _ _ _ (by rw [up_ne _ _ _ _ (by decide), up_ne _ _ _ _ (by decide), up_ne _ _ _ _ (by decide), h0]; decide))) ?_
    refine To.via (st_jalr 0 1 0 rfl ret (by
      rw [up_ne _ _ _ _ (by decide), up_ne _ _ _ _ (by decide), up_ne _ _ _ _ (by decide), up_ne _ _ _ _ (by decide), h1, show wrN 0 = 0 by decide]
      omega)) ?_
    exact To.refl 0
  refine ⟨_, hA, fun x x5 x6 x10 => ?_⟩
  by_cases e : x = 0
  · subst e; exact h0.symm
  · rw [up_ne _ _ _ _ e, up_ne _ _ _ _ x10, up_ne _ _ _ _ x6, up_ne _ _ _ _ x5, up_ne _ _ _ _ x5]
end
end Go.Pat
