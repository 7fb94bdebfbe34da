/- What an operation makes is a number of 64 bits. -/
import Derived.Test.YtemngapfnkokiaaDoorAluD
namespace Go.Pat
open Go Go.RowKit
theorem wrapu_rng (z : Int) : 0 ≤ IntKind.u64.wrap z ∧ IntKind.u64.wrap z < 18446744073709551616 := by rw [IntKind.wrap_u64]; omega
theorem bits_rng (o : BinOp) (x y : Int) (h : ∃ z, bits o .u64 x y = IntKind.u64.wrap z) : 0 ≤ bits o .u64 x y ∧ bits o .u64 x y < 18446744073709551616 := by
  obtain ⟨z, hz⟩ := h
  rw [hz, IntKind.wrap_u64]
  omega
theorem tr_rng (b : Bool) : 0 ≤ tr b ∧ tr b < 18446744073709551616 := by cases b <;> exact ⟨by decide, by decide⟩
theorem fullV_rng (p a b : Nat) (hp : p = 35 ∨ p = 36 ∨ p = 37 ∨ p = 38 ∨ p = 39 ∨ p = 40 ∨ p = 41 ∨ p = 42 ∨ p = 43 ∨ p = 44 ∨ p = 50 ∨ p = 51 ∨ p = 52 ∨ p = 53 ∨ p = 54 ∨ p = 55 ∨ p = 56 ∨ p = 57) (ha : a < 18446744073709551616) (hb : b < 18446744073709551616) : 0 ≤ fullV p a b ∧ fullV p a b < 18446744073709551616 := by
  have key : (p = 35 ∨ p = 36 ∨ p = 37 ∨ p = 41 ∨ p = 42 ∨ p = 50 ∨ p = 54 ∨ p = 55 ∨ p = 56 ∨ p = 57) → 0 ≤ fullV p a b ∧ fullV p a b < 18446744073709551616 := fun h => by
    obtain ⟨h1, h2⟩ := fullN_is p a b h ha
    rw [h1]; omega
  rcases hp with h | h | h | h | h | h | h | h | h | h | h | h | h | h | h | h | h | h
  · exact key (by omega)
  · exact key (by omega)
  · exact key (by omega)
  · rw [h, fullV_38]; exact tr_rng _
  · rw [h, fullV_39]; exact tr_rng _
  · rw [h, fullV_40]; exact bits_rng _ _ _ ⟨_, rfl⟩
  · exact key (by omega)
  · exact key (by omega)
  · rw [h, fullV_43]; exact bits_rng _ _ _ ⟨_, rfl⟩
  · rw [h, fullV_44]; exact bits_rng _ _ _ ⟨_, rfl⟩
  · exact key (by omega)
  · rw [h, fullV_51]; exact wrapu_rng _
  · rw [h, fullV_52]; exact wrapu_rng _
  · rw [h, fullV_53]
    have : a * b < 18446744073709551616 * 18446744073709551616 := Nat.mul_lt_mul'' ha hb
    omega
  · exact key (by omega)
  · exact key (by omega)
  · exact key (by omega)
  · exact key (by omega)
theorem wordN_lt (p x y : Nat) (hp : p = 35 ∨ p = 36 ∨ p = 37 ∨ p = 41 ∨ p = 42 ∨ p = 50 ∨ p = 54 ∨ p = 55 ∨ p = 56 ∨ p = 57) (hx : x < 4294967296) : wordN p x y < 18446744073709551616 := by
  rcases hp with h | h | h | h | h | h | h | h | h | h <;> rw [h]
  · rw [wordN_35]; exact sx32_lt _ (Nat.mod_lt _ (by decide))
  · rw [wordN_36]; exact sx32_lt _ (Nat.mod_lt _ (by decide))
  · rw [wordN_37]; exact sx32_lt _ (Nat.mod_lt _ (by decide))
  · rw [wordN_41]; exact sx32_lt _ (Nat.lt_of_le_of_lt (Nat.div_le_self _ _) hx)
  · rw [wordN_42]; exact sx32_lt _ (toNat_mod_lt _)
  · rw [wordN_50]; exact sx32_lt _ (Nat.mod_lt _ (by decide))
  · rw [wordN_54]; exact sx32_lt _ (Nat.mod_lt _ (by decide))
  · rw [wordN_55]; exact sx32_lt _ (Nat.mod_lt _ (by decide))
  · rw [wordN_56]; exact sx32_lt _ (Nat.mod_lt _ (by decide))
  · rw [wordN_57]; exact sx32_lt _ (Nat.mod_lt _ (by decide))
theorem aluV_nat (op a b : Nat) (h1 : 22 ≤ op) (h2 : op ≤ 62) (ha : a < 18446744073709551616) (hb : b < 18446744073709551616) : aluV op a b = (((aluV op a b).toNat : Nat) : Int) ∧ (aluV op a b).toNat < 18446744073709551616 := by
  have key : 0 ≤ aluV op a b ∧ aluV op a b < 18446744073709551616 := by
    unfold aluV
    cases hh : halfOf op with
    | true =>
      obtain ⟨p, hp, hl⟩ := pOf_half op h1 h2 hh
      rw [if_pos rfl, hp]
      have := wordN_lt p (a % 4294967296) (b % 4294967296) hl (Nat.mod_lt _ (by decide))
      omega
    | false =>
      obtain ⟨p, hp, hl⟩ := pOf_full op h1 h2 hh
      rw [if_neg (by decide), hp]
      exact fullV_rng p a b hl ha hb
  omega
end Go.Pat
