/- patinaref01.part, signed, guess: what a word would be as an operation's instruction. -/
import Derived.Test.YtlhenglopnipaaaGreatDoorForms
import Derived.Test.YtlhenglopnipaaaGreatDoorRvP
import Derived.Test.YtlhenglopnipaaaGreatDoorAlus
import Derived.Test.YtlhenglopnipaaaGreatDoorDecI
import Derived.BigQuiet
import Derived.Deep.QuietTactic
namespace Go.Pat
open Go Go.RowKit
theorem sgn_hi (n c : Nat) (hn : n < 2 ^ c) (h : 2 ^ (c - 1) ≤ n) : sgn n c = (n : Int) - 2 ^ c := by
  unfold sgn
  rw [Nat.mod_eq_of_lt hn, if_neg (by omega)]
theorem sgn_lo (n c : Nat) (hn : n < 2 ^ c) (h : n < 2 ^ (c - 1)) : sgn n c = (n : Int) := by
  unfold sgn
  rw [Nat.mod_eq_of_lt hn, if_pos h]
end Go.Pat
namespace Go.Proofs
open Go Go.RowKit Go.Pat
end Go.Proofs

/- An instruction's word, and the word's instruction: what patinaref01.Decode finds is what patina/rv.Decode finds. Plain: no program in sight. -/
namespace Go.Pat
open Go Go.RowKit
theorem or_add (a b k : Nat) (h : a < 2 ^ k) : a ||| b * 2 ^ k = a + b * 2 ^ k := by
  have := Nat.shiftLeft_add_eq_or_of_lt h b
  rw [Nat.shiftLeft_eq] at this
  rw [Nat.or_comm, ← this, Nat.add_comm]
/-- a word of parts. -/
theorem or5 (c f d a b : Nat) (h1 : c < 128) (h2 : f < 8) (h3 : d < 32) (h4 : a < 32) (_h5 : b < 32) :
    c ||| f * 4096 ||| d * 128 ||| a * 32768 ||| b * 1048576 = c + d * 128 + f * 4096 + a * 32768 + b * 1048576 := by
  have e1 : c ||| f * 4096 ||| d * 128 = c ||| d * 128 ||| f * 4096 := by rw [Nat.or_assoc, Nat.or_comm (f * 4096), ← Nat.or_assoc]
  rw [e1, show (128:Nat) = 2 ^ 7 from rfl, show (4096:Nat) = 2 ^ 12 from rfl, show (32768:Nat) = 2 ^ 15 from rfl, show (1048576:Nat) = 2 ^ 20 from rfl,
    or_add c d 7 (by omega), or_add _ f 12 (by omega), or_add _ a 15 (by omega), or_add _ b 20 (by omega)]
/-- bits of a number, from one on, so many. -/
def bitI (n : Int) (f c : Nat) : Nat := (n / 2 ^ f % 2 ^ c).toNat
theorem bitI_sgn12 (v : Nat) (h : v < 4096) : bitI (sgn v 12) 0 12 = v ∧ bitI (sgn v 12) 0 5 = v % 32 ∧ bitI (sgn v 12) 5 7 = v / 32 := by
  unfold bitI sgn
  simp only [Nat.mod_eq_of_lt (show v < 2 ^ 12 from h)]
  split <;> refine ⟨?_, ?_, ?_⟩ <;> omega
theorem bitI_sgn13 (v : Nat) (h : v < 8192) : bitI (sgn v 13) 11 1 = v / 2048 % 2 ∧ bitI (sgn v 13) 1 4 = v / 2 % 16 ∧ bitI (sgn v 13) 5 6 = v / 32 % 64 ∧ bitI (sgn v 13) 12 1 = v / 4096 := by
  unfold bitI sgn
  simp only [Nat.mod_eq_of_lt (show v < 2 ^ 13 from h)]
  split <;> refine ⟨?_, ?_, ?_, ?_⟩ <;> omega
theorem bitI_sgn20 (v : Nat) (h : v < 1048576) : bitI (sgn v 20) 0 20 = v := by
  unfold bitI sgn
  simp only [Nat.mod_eq_of_lt (show v < 2 ^ 20 from h)]
  split <;> omega
theorem bitI_sgn21 (v : Nat) (h : v < 2097152) : bitI (sgn v 21) 12 8 = v / 4096 % 256 ∧ bitI (sgn v 21) 11 1 = v / 2048 % 2 ∧ bitI (sgn v 21) 1 10 = v / 2 % 1024 ∧ bitI (sgn v 21) 20 1 = v / 1048576 := by
  unfold bitI sgn
  simp only [Nat.mod_eq_of_lt (show v < 2 ^ 21 from h)]
  split <;> refine ⟨?_, ?_, ?_, ?_⟩ <;> omega
/-- a word as an operation's row says, out of an instruction's fields. -/
def headN (c f3 d a b : Nat) : Nat := c ||| f3 * 4096 ||| d * 128 ||| a * 32768 ||| b * 1048576
def rwordN (l c f3 f7 d a b : Nat) (n : Int) : Nat :=
  if l = 82 then headN c f3 d a b ||| f7 * 33554432
  else if l = 73 then headN c f3 d a b ||| bitI n 0 12 * 1048576
  else if l = 72 ∨ l = 104 then headN c f3 d a b ||| f7 * 33554432 ||| (n % 4294967296).toNat * 1048576 % 4294967296
  else if l = 83 then headN c f3 d a b ||| bitI n 0 5 * 128 ||| bitI n 5 7 * 33554432
  else if l = 66 then headN c f3 d a b ||| bitI n 11 1 * 128 ||| bitI n 1 4 * 256 ||| bitI n 5 6 * 33554432 ||| bitI n 12 1 * 2147483648
  else if l = 85 then headN c f3 d a b ||| bitI n 0 20 * 4096
  else if l = 74 then headN c f3 d a b ||| bitI n 12 8 * 4096 ||| bitI n 11 1 * 1048576 ||| bitI n 1 10 * 2097152 ||| bitI n 20 1 * 2147483648
  else headN c f3 d a b
theorem or_mid (lo hi y k m : Nat) (hl : lo < 2 ^ k) (hy : y < 2 ^ m) : (lo + hi * 2 ^ (k + m)) ||| y * 2 ^ k = lo + y * 2 ^ k + hi * 2 ^ (k + m) := by
  have h2 : lo + y * 2 ^ k < 2 ^ (k + m) := by
    have : y * 2 ^ k + 2 ^ k ≤ 2 ^ m * 2 ^ k := by
      rw [← Nat.succ_mul]; exact Nat.mul_le_mul_right _ hy
    rw [Nat.pow_add, Nat.mul_comm (2 ^ k)]
    omega
  rw [← or_add lo hi (k + m) (by omega), Nat.or_assoc, Nat.or_comm (hi * 2 ^ (k + m)), ← Nat.or_assoc, or_add lo y k hl, or_add _ hi (k + m) h2]
theorem split6 (x : Nat) (hx : x < 4294967296) : x = x % 128 + x / 128 % 32 * 128 + x / 4096 % 8 * 4096 + x / 32768 % 32 * 32768 + x / 1048576 % 32 * 1048576 + x / 33554432 * 33554432 ∧ x % 128 < 128 ∧ x / 128 % 32 < 32 ∧ x / 4096 % 8 < 8 ∧ x / 32768 % 32 < 32 ∧ x / 1048576 % 32 < 32 ∧ x / 33554432 < 128 := by
  have a0 := Nat.div_add_mod (x) 128
  have a1 := Nat.div_add_mod (x / 128) 32
  rw [Nat.div_div_eq_div_mul] at a1
  have a2 := Nat.div_add_mod (x / 4096) 8
  rw [Nat.div_div_eq_div_mul] at a2
  have a3 := Nat.div_add_mod (x / 32768) 32
  rw [Nat.div_div_eq_div_mul] at a3
  have a4 := Nat.div_add_mod (x / 1048576) 32
  rw [Nat.div_div_eq_div_mul] at a4
  have b6 : x / 33554432 < 128 := by omega
  have b0 := Nat.mod_lt (x) (show 128 > 0 by decide)
  have b1 := Nat.mod_lt (x / 128) (show 32 > 0 by decide)
  have b2 := Nat.mod_lt (x / 4096) (show 8 > 0 by decide)
  have b3 := Nat.mod_lt (x / 32768) (show 32 > 0 by decide)
  have b4 := Nat.mod_lt (x / 1048576) (show 32 > 0 by decide)
  refine ⟨?_, b0, b1, b2, b3, b4, b6⟩
  clear hx b0 b1 b2 b3 b4 b6
  generalize x % 128 = m0 at *
  generalize x / 128 % 32 = m1 at *
  generalize x / 4096 % 8 = m2 at *
  generalize x / 32768 % 32 = m3 at *
  generalize x / 1048576 % 32 = m4 at *
  generalize x / 128 = q0 at *
  generalize x / 4096 = q1 at *
  generalize x / 32768 = q2 at *
  generalize x / 1048576 = q3 at *
  generalize x / 33554432 = q4 at *
  omega
theorem splitB (x : Nat) (hx : x < 4294967296) : x = x % 128 + x / 128 % 2 * 128 + x / 256 % 16 * 256 + x / 4096 % 8 * 4096 + x / 32768 % 32 * 32768 + x / 1048576 % 32 * 1048576 + x / 33554432 % 64 * 33554432 + x / 2147483648 * 2147483648 ∧ x % 128 < 128 ∧ x / 128 % 2 < 2 ∧ x / 256 % 16 < 16 ∧ x / 4096 % 8 < 8 ∧ x / 32768 % 32 < 32 ∧ x / 1048576 % 32 < 32 ∧ x / 33554432 % 64 < 64 ∧ x / 2147483648 < 2 := by
  have a0 := Nat.div_add_mod (x) 128
  have a1 := Nat.div_add_mod (x / 128) 2
  rw [Nat.div_div_eq_div_mul] at a1
  have a2 := Nat.div_add_mod (x / 256) 16
  rw [Nat.div_div_eq_div_mul] at a2
  have a3 := Nat.div_add_mod (x / 4096) 8
  rw [Nat.div_div_eq_div_mul] at a3
  have a4 := Nat.div_add_mod (x / 32768) 32
  rw [Nat.div_div_eq_div_mul] at a4
  have a5 := Nat.div_add_mod (x / 1048576) 32
  rw [Nat.div_div_eq_div_mul] at a5
  have a6 := Nat.div_add_mod (x / 33554432) 64
  rw [Nat.div_div_eq_div_mul] at a6
  have b8 : x / 2147483648 < 2 := by omega
  have b0 := Nat.mod_lt (x) (show 128 > 0 by decide)
  have b1 := Nat.mod_lt (x / 128) (show 2 > 0 by decide)
  have b2 := Nat.mod_lt (x / 256) (show 16 > 0 by decide)
  have b3 := Nat.mod_lt (x / 4096) (show 8 > 0 by decide)
  have b4 := Nat.mod_lt (x / 32768) (show 32 > 0 by decide)
  have b5 := Nat.mod_lt (x / 1048576) (show 32 > 0 by decide)
  have b6 := Nat.mod_lt (x / 33554432) (show 64 > 0 by decide)
  refine ⟨?_, b0, b1, b2, b3, b4, b5, b6, b8⟩
  clear hx b0 b1 b2 b3 b4 b5 b6 b8
  generalize x % 128 = m0 at *
  generalize x / 128 % 2 = m1 at *
  generalize x / 256 % 16 = m2 at *
  generalize x / 4096 % 8 = m3 at *
  generalize x / 32768 % 32 = m4 at *
  generalize x / 1048576 % 32 = m5 at *
  generalize x / 33554432 % 64 = m6 at *
  generalize x / 128 = q0 at *
  generalize x / 256 = q1 at *
  generalize x / 4096 = q2 at *
  generalize x / 32768 = q3 at *
  generalize x / 1048576 = q4 at *
  generalize x / 33554432 = q5 at *
  generalize x / 2147483648 = q6 at *
  omega
theorem splitJ (x : Nat) (hx : x < 4294967296) : x = x % 128 + x / 128 % 32 * 128 + x / 4096 % 256 * 4096 + x / 1048576 % 2 * 1048576 + x / 2097152 % 1024 * 2097152 + x / 2147483648 * 2147483648 ∧ x % 128 < 128 ∧ x / 128 % 32 < 32 ∧ x / 4096 % 256 < 256 ∧ x / 1048576 % 2 < 2 ∧ x / 2097152 % 1024 < 1024 ∧ x / 2147483648 < 2 := by
  have a0 := Nat.div_add_mod (x) 128
  have a1 := Nat.div_add_mod (x / 128) 32
  rw [Nat.div_div_eq_div_mul] at a1
  have a2 := Nat.div_add_mod (x / 4096) 256
  rw [Nat.div_div_eq_div_mul] at a2
  have a3 := Nat.div_add_mod (x / 1048576) 2
  rw [Nat.div_div_eq_div_mul] at a3
  have a4 := Nat.div_add_mod (x / 2097152) 1024
  rw [Nat.div_div_eq_div_mul] at a4
  have b6 : x / 2147483648 < 2 := by omega
  have b0 := Nat.mod_lt (x) (show 128 > 0 by decide)
  have b1 := Nat.mod_lt (x / 128) (show 32 > 0 by decide)
  have b2 := Nat.mod_lt (x / 4096) (show 256 > 0 by decide)
  have b3 := Nat.mod_lt (x / 1048576) (show 2 > 0 by decide)
  have b4 := Nat.mod_lt (x / 2097152) (show 1024 > 0 by decide)
  refine ⟨?_, b0, b1, b2, b3, b4, b6⟩
  clear hx b0 b1 b2 b3 b4 b6
  generalize x % 128 = m0 at *
  generalize x / 128 % 32 = m1 at *
  generalize x / 4096 % 256 = m2 at *
  generalize x / 1048576 % 2 = m3 at *
  generalize x / 2097152 % 1024 = m4 at *
  generalize x / 128 = q0 at *
  generalize x / 4096 = q1 at *
  generalize x / 1048576 = q2 at *
  generalize x / 2097152 = q3 at *
  generalize x / 2147483648 = q4 at *
  omega
theorem im13 (d e p t : Nat) (hd : d < 16) (he : e < 64) (hp : p < 2) (_ht : t < 2) : (d * 2 + e * 32 + p * 2048 + t * 4096) / 2048 % 2 = p ∧ (d * 2 + e * 32 + p * 2048 + t * 4096) / 2 % 16 = d ∧ (d * 2 + e * 32 + p * 2048 + t * 4096) / 32 % 64 = e ∧ (d * 2 + e * 32 + p * 2048 + t * 4096) / 4096 = t := by
  have h1 : (d * 2 + e * 32 + p * 2048 + t * 4096) / 2048 = p + 2 * t := by omega
  have h2 : (d * 2 + e * 32 + p * 2048 + t * 4096) / 2 = d + 16 * (e + p * 64 + t * 128) := by omega
  have h3 : (d * 2 + e * 32 + p * 2048 + t * 4096) / 32 = e + 64 * (p + t * 2) := by omega
  rw [h1, h2, h3]
  refine ⟨by omega, by omega, by omega, by omega⟩
theorem im21 (e p f t : Nat) (he : e < 1024) (hp : p < 2) (hf : f < 256) (_ht : t < 2) : (e * 2 + p * 2048 + f * 4096 + t * 1048576) / 4096 % 256 = f ∧ (e * 2 + p * 2048 + f * 4096 + t * 1048576) / 2048 % 2 = p ∧ (e * 2 + p * 2048 + f * 4096 + t * 1048576) / 2 % 1024 = e ∧ (e * 2 + p * 2048 + f * 4096 + t * 1048576) / 1048576 = t := by
  have h1 : (e * 2 + p * 2048 + f * 4096 + t * 1048576) / 4096 = f + 256 * t := by omega
  have h2 : (e * 2 + p * 2048 + f * 4096 + t * 1048576) / 2048 = p + 2 * (f + t * 256) := by omega
  have h3 : (e * 2 + p * 2048 + f * 4096 + t * 1048576) / 2 = e + 1024 * (p + 2 * f + 512 * t) := by omega
  rw [h1, h2, h3]
  refine ⟨by omega, by omega, by omega, by omega⟩
section
variable (c f3 f7 x : Nat)
theorem word_R (hc : c < 128) (h3 : f3 < 8) (_hx : x < 4294967296) (_h7 : f7 < 128) : headN c f3 (x / 128 % 32) (x / 32768 % 32) (x / 1048576 % 32) ||| f7 * 33554432 = x ↔ x / 33554432 = f7 ∧ x % 128 = c ∧ x / 4096 % 8 = f3 := by
  unfold headN
  rw [or5 _ _ _ _ _ hc h3 (by omega) (by omega) (by omega), show (33554432:Nat) = 2 ^ 25 from rfl, or_add _ f7 25 (by omega)]
  omega
theorem word_I (hc : c < 128) (h3 : f3 < 8) (hx : x < 4294967296) (n : Int) (hn : n = sgn (x / 1048576) 12) : headN c f3 (x / 128 % 32) (x / 32768 % 32) 0 ||| bitI n 0 12 * 1048576 = x ↔ x % 128 = c ∧ x / 4096 % 8 = f3 := by
  subst hn
  unfold headN
  rw [(bitI_sgn12 (x / 1048576) (by omega)).1, or5 _ _ _ _ _ hc h3 (by omega) (by omega) (by omega), show (1048576:Nat) = 2 ^ 20 from rfl, or_add _ (x / 2 ^ 20) 20 (by omega)]
  omega
theorem word_H (hc : c < 128) (h3 : f3 < 8) (hx : x < 4294967296) (h7 : f7 = 0 ∨ f7 = 32) : headN c f3 (x / 128 % 32) (x / 32768 % 32) 0 ||| f7 * 33554432 ||| x / 1048576 % 64 * 1048576 = x ↔ x / 67108864 * 2 = f7 ∧ x % 128 = c ∧ x / 4096 % 8 = f3 := by
  unfold headN
  rw [or5 _ _ _ _ _ hc h3 (by omega) (by omega) (by omega)]
  rcases h7 with rfl | rfl
  · rw [Nat.zero_mul, Nat.or_zero, show (1048576:Nat) = 2 ^ 20 from rfl, or_add _ (x / 2 ^ 20 % 64) 20 (by omega)]
    omega
  · rw [show 32 * 33554432 = 1 * 2 ^ 30 from rfl, or_add _ 1 30 (by omega), show c + x / 128 % 32 * 128 + f3 * 4096 + x / 32768 % 32 * 32768 + 0 * 1048576 + 1 * 2 ^ 30 = (c + x / 128 % 32 * 128 + f3 * 4096 + x / 32768 % 32 * 32768) + 16 * 2 ^ (20 + 6) by omega, show (1048576:Nat) = 2 ^ 20 from rfl, or_mid _ 16 (x / 2 ^ 20 % 64) 20 6 (by omega) (by omega)]
    omega
theorem word_h (hc : c < 128) (h3 : f3 < 8) (hx : x < 4294967296) (h7 : f7 = 0 ∨ f7 = 32) : headN c f3 (x / 128 % 32) (x / 32768 % 32) 0 ||| f7 * 33554432 ||| x / 1048576 % 32 * 1048576 = x ↔ x / 33554432 = f7 ∧ x % 128 = c ∧ x / 4096 % 8 = f3 := by
  unfold headN
  rw [or5 _ _ _ _ _ hc h3 (by omega) (by omega) (by omega)]
  rcases h7 with rfl | rfl
  · rw [Nat.zero_mul, Nat.or_zero, show (1048576:Nat) = 2 ^ 20 from rfl, or_add _ (x / 2 ^ 20 % 32) 20 (by omega)]
    omega
  · rw [show 32 * 33554432 = 1 * 2 ^ 30 from rfl, or_add _ 1 30 (by omega), show c + x / 128 % 32 * 128 + f3 * 4096 + x / 32768 % 32 * 32768 + 0 * 1048576 + 1 * 2 ^ 30 = (c + x / 128 % 32 * 128 + f3 * 4096 + x / 32768 % 32 * 32768) + 16 * 2 ^ (20 + 6) by omega, show (1048576:Nat) = 2 ^ 20 from rfl, or_mid _ 16 (x / 2 ^ 20 % 32) 20 6 (by omega) (by omega)]
    omega
theorem word_S (hc : c < 128) (h3 : f3 < 8) (hx : x < 4294967296) (n : Int) (hn : n = sgn (x / 128 % 32 + x / 33554432 * 32) 12) : headN c f3 0 (x / 32768 % 32) (x / 1048576 % 32) ||| bitI n 0 5 * 128 ||| bitI n 5 7 * 33554432 = x ↔ x % 128 = c ∧ x / 4096 % 8 = f3 := by
  subst hn
  obtain ⟨hs, g1, g2, g3, g4, g5, g6⟩ := split6 x hx
  generalize x % 128 = o at *
  generalize x / 128 % 32 = d at *
  generalize x / 4096 % 8 = f at *
  generalize x / 32768 % 32 = a at *
  generalize x / 1048576 % 32 = b at *
  generalize x / 33554432 = e at *
  obtain ⟨_, e1, e2⟩ := bitI_sgn12 (d + e * 32) (by omega)
  unfold headN
  rw [e1, e2, or5 _ _ _ _ _ hc h3 (by omega) g4 g5, show (d + e * 32) % 32 = d by omega, show (d + e * 32) / 32 = e by omega, show c + 0 * 128 + f3 * 4096 + a * 32768 + b * 1048576 = c + (f3 + a * 8 + b * 256) * 2 ^ (7 + 5) by omega,
    show (128 : Nat) = 2 ^ 7 from rfl, or_mid _ _ _ 7 5 hc g2, show (33554432:Nat) = 2 ^ 25 from rfl, or_add _ _ 25 (by omega)]
  omega
theorem word_B (hc : c < 128) (h3 : f3 < 8) (hx : x < 4294967296) (n : Int) (hn : n = sgn (x / 256 % 16 * 2 + x / 33554432 % 64 * 32 + x / 128 % 2 * 2048 + x / 2147483648 * 4096) 13) :
    headN c f3 0 (x / 32768 % 32) (x / 1048576 % 32) ||| bitI n 11 1 * 128 ||| bitI n 1 4 * 256 ||| bitI n 5 6 * 33554432 ||| bitI n 12 1 * 2147483648 = x ↔ x % 128 = c ∧ x / 4096 % 8 = f3 := by
  subst hn
  obtain ⟨hs, g1, g2, g3, g4, g5, g6, g7, g8⟩ := splitB x hx
  generalize x % 128 = o at *
  generalize x / 128 % 2 = p at *
  generalize x / 256 % 16 = d at *
  generalize x / 4096 % 8 = f at *
  generalize x / 32768 % 32 = a at *
  generalize x / 1048576 % 32 = b at *
  generalize x / 33554432 % 64 = e at *
  generalize x / 2147483648 = t at *
  obtain ⟨e1, e2, e3, e4⟩ := bitI_sgn13 (d * 2 + e * 32 + p * 2048 + t * 4096) (by omega)
  unfold headN
  rw [e1, e2, e3, e4, or5 _ _ _ _ _ hc h3 (by omega) g5 g6, (im13 d e p t g3 g7 g2 g8).1, (im13 d e p t g3 g7 g2 g8).2.1, (im13 d e p t g3 g7 g2 g8).2.2.1, (im13 d e p t g3 g7 g2 g8).2.2.2,
    show c + 0 * 128 + f3 * 4096 + a * 32768 + b * 1048576 = c + ((f3 + a * 8 + b * 256) * 16) * 2 ^ (7 + 1) by omega,
    show p * 128 = p * 2 ^ 7 from rfl, or_mid _ _ _ 7 1 hc (by omega), show c + p * 2 ^ 7 + ((f3 + a * 8 + b * 256) * 16) * 2 ^ (7 + 1) = (c + p * 2 ^ 7) + (f3 + a * 8 + b * 256) * 2 ^ (8 + 4) by omega,
    show d * 256 = d * 2 ^ 8 from rfl, or_mid _ _ _ 8 4 (by omega) (by omega), show (33554432:Nat) = 2 ^ 25 from rfl, or_add _ _ 25 (by omega), show (2147483648:Nat) = 2 ^ 31 from rfl, or_add _ _ 31 (by omega)]
  omega
theorem word_U (hc : c < 128) (_h3 : f3 < 8) (hx : x < 4294967296) (n : Int) (hn : n = sgn (x / 4096) 20) : headN c 0 (x / 128 % 32) 0 0 ||| bitI n 0 20 * 4096 = x ↔ x % 128 = c := by
  subst hn
  unfold headN
  rw [bitI_sgn20 (x / 4096) (by omega), or5 _ _ _ _ _ hc (by omega) (by omega) (by omega) (by omega), show (4096:Nat) = 2 ^ 12 from rfl, or_add _ _ 12 (by omega)]
  omega
theorem word_J (hc : c < 128) (_h3 : f3 < 8) (hx : x < 4294967296) (n : Int) (hn : n = sgn (x / 2097152 % 1024 * 2 + x / 1048576 % 2 * 2048 + x / 4096 % 256 * 4096 + x / 2147483648 * 1048576) 21) :
    headN c 0 (x / 128 % 32) 0 0 ||| bitI n 12 8 * 4096 ||| bitI n 11 1 * 1048576 ||| bitI n 1 10 * 2097152 ||| bitI n 20 1 * 2147483648 = x ↔ x % 128 = c := by
  subst hn
  obtain ⟨hs, g1, g2, g3, g4, g5, g6⟩ := splitJ x hx
  generalize x % 128 = o at *
  generalize x / 128 % 32 = d at *
  generalize x / 4096 % 256 = f at *
  generalize x / 1048576 % 2 = p at *
  generalize x / 2097152 % 1024 = e at *
  generalize x / 2147483648 = t at *
  obtain ⟨e1, e2, e3, e4⟩ := bitI_sgn21 (e * 2 + p * 2048 + f * 4096 + t * 1048576) (by omega)
  unfold headN
  rw [e1, e2, e3, e4, or5 _ _ _ _ _ hc (by omega) (by omega) (by omega) (by omega), (im21 e p f t g5 g4 g3 g6).1, (im21 e p f t g5 g4 g3 g6).2.1, (im21 e p f t g5 g4 g3 g6).2.2.1, (im21 e p f t g5 g4 g3 g6).2.2.2,
    show f * 4096 = f * 2 ^ 12 from rfl, or_add _ _ 12 (by omega), show p * 1048576 = p * 2 ^ 20 from rfl, or_add _ _ 20 (by omega),
    show e * 2097152 = e * 2 ^ 21 from rfl, or_add _ _ 21 (by omega), show t * 2147483648 = t * 2 ^ 31 from rfl, or_add _ _ 31 (by omega)]
  omega
end
/-- the number of a word, as an operation's letter says. -/
def gImm (l x : Nat) : Int :=
  if l = 73 then sgn (x / 1048576) 12
  else if l = 72 then ((x / 1048576 % 64 : Nat) : Int)
  else if l = 104 then ((x / 1048576 % 32 : Nat) : Int)
  else if l = 83 then sgn (x / 128 % 32 + x / 33554432 * 32) 12
  else if l = 66 then sgn (x / 256 % 16 * 2 + x / 33554432 % 64 * 32 + x / 128 % 2 * 2048 + x / 2147483648 * 4096) 13
  else if l = 85 then sgn (x / 4096) 20
  else if l = 74 then sgn (x / 2097152 % 1024 * 2 + x / 1048576 % 2 * 2048 + x / 4096 % 256 * 4096 + x / 2147483648 * 1048576) 21
  else 0
/-- what a word would be as an operation's instruction. -/
def gIns (op x : Nat) : Ins :=
  ⟨op, if hasD1 (formR op).1 then x / 128 % 32 else 0, if has11 (formR op).1 then x / 32768 % 32 else 0, if has21 (formR op).1 then x / 1048576 % 32 else 0, gImm (formR op).1 x⟩
theorem sgn12_rng (n : Nat) : -2048 ≤ sgn n 12 ∧ sgn n 12 ≤ 2047 := by unfold sgn; split <;> omega
theorem sgn13_rng (n : Nat) : -4096 ≤ sgn n 13 ∧ sgn n 13 ≤ 4095 := by unfold sgn; split <;> omega
theorem sgn13_even (n : Nat) (h : n % 2 = 0) : sgn n 13 % 2 = 0 := by unfold sgn; split <;> omega
theorem sgn20_rng (n : Nat) : -524288 ≤ sgn n 20 ∧ sgn n 20 ≤ 524287 := by unfold sgn; split <;> omega
theorem sgn21_rng (n : Nat) : -1048576 ≤ sgn n 21 ∧ sgn n 21 ≤ 1048575 := by unfold sgn; split <;> omega
theorem sgn21_even (n : Nat) (h : n % 2 = 0) : sgn n 21 % 2 = 0 := by unfold sgn; split <;> omega
theorem immB1_g (l x : Nat) (hl : l ∈ lettersL) : immB1 l (gImm l x) = true := by
  simp only [lettersL, List.mem_cons, List.not_mem_nil, or_false] at hl
  rcases hl with rfl | rfl | rfl | rfl | rfl | rfl | rfl | rfl | rfl | rfl <;> simp only [immB1, gImm, reduceCtorEq, Nat.reduceEqDiff, if_true, if_false, or_self, or_true, or_false, Bool.and_eq_true, decide_eq_true_eq, beq_iff_eq]
  · exact sgn20_rng _
  · refine ⟨⟨(sgn21_rng _).1, ?_⟩, sgn21_even _ (by omega)⟩
    have h1 := sgn21_rng (x / 2097152 % 1024 * 2 + x / 1048576 % 2 * 2048 + x / 4096 % 256 * 4096 + x / 2147483648 * 1048576)
    have h2 := sgn21_even (x / 2097152 % 1024 * 2 + x / 1048576 % 2 * 2048 + x / 4096 % 256 * 4096 + x / 2147483648 * 1048576) (by omega)
    generalize sgn _ 21 = z at *
    omega
  · exact sgn12_rng _
  · refine ⟨⟨(sgn13_rng _).1, ?_⟩, sgn13_even _ (by omega)⟩
    have h1 := sgn13_rng (x / 256 % 16 * 2 + x / 33554432 % 64 * 32 + x / 128 % 2 * 2048 + x / 2147483648 * 4096)
    have h2 := sgn13_even (x / 256 % 16 * 2 + x / 33554432 % 64 * 32 + x / 128 % 2 * 2048 + x / 2147483648 * 4096) (by omega)
    generalize sgn _ 13 = z at *
    omega
  · exact sgn12_rng _
  · omega
  · omega
/-- what an operation's two tables say of one another. -/
def tabOK (op : Nat) : Bool :=
  let f := formR op
  let r := rvRow op
  (f.1 == 82 && r == f && decide (f.2.1 < 128) && decide (f.2.2.1 < 8) && decide (f.2.2.2 < 128)) ||
  (f.1 == 73 && r == f && decide (f.2.1 < 128) && decide (f.2.2.1 < 8)) ||
  (f.1 == 72 && r == f && decide (f.2.1 < 128) && decide (f.2.1 ≠ 27) && decide (f.2.2.1 < 8) && (f.2.2.2 == 0 || f.2.2.2 == 32)) ||
  (f.1 == 104 && r == (72, 27, f.2.2.1, f.2.2.2) && decide (f.2.1 = 27) && decide (f.2.2.1 < 8) && (f.2.2.2 == 0 || f.2.2.2 == 32)) ||
  (f.1 == 83 && r == f && decide (f.2.1 < 128) && decide (f.2.2.1 < 8)) ||
  (f.1 == 66 && r == f && decide (f.2.1 < 128) && decide (f.2.2.1 < 8)) ||
  (f.1 == 85 && r == f && decide (f.2.1 < 128) && f.2.2.1 == 0) ||
  (f.1 == 74 && r == f && decide (f.2.1 < 128) && f.2.2.1 == 0) ||
  (f.1 == 78 && r == f && f.2.2.1 == 0)
theorem tab_ok (op : Nat) (h1 : 1 ≤ op) (h2 : op < 66) : tabOK op = true := by
  obtain ⟨k, rfl⟩ : ∃ k, op = k + 1 := ⟨op - 1, by omega⟩
  exact (show ∀ k, k < 65 → tabOK (k + 1) = true by decide) k (by omega)
def gWord (op x : Nat) : Nat := rwordN (formR op).1 (formR op).2.1 (formR op).2.2.1 (formR op).2.2.2 (gIns op x).rd (gIns op x).rs1 (gIns op x).rs2 (gIns op x).imm
theorem gWord_fits (op x : Nat) (h1 : 1 ≤ op) (h2 : op < 66) (hx : x < 4294967296) : gWord op x = x ↔ fitsR op x = true := by
  have ht := tab_ok op h1 h2
  unfold gWord gIns fitsR
  unfold tabOK at ht
  generalize hF : formR op = F at *
  generalize hR : rvRow op = R at *
  obtain ⟨l, c, f3, f7⟩ := F
  simp only [Bool.or_eq_true, Bool.and_eq_true, beq_iff_eq, decide_eq_true_eq] at ht
  rcases ht with (((((((⟨⟨⟨⟨rfl, rfl⟩, a1⟩, a2⟩, a3⟩ | ⟨⟨⟨rfl, rfl⟩, a1⟩, a2⟩) | ⟨⟨⟨⟨⟨rfl, rfl⟩, a1⟩, a2⟩, a3⟩, a4⟩) | ⟨⟨⟨⟨rfl, rfl⟩, rfl⟩, a3⟩, a4⟩) | ⟨⟨⟨rfl, rfl⟩, a1⟩, a2⟩) | ⟨⟨⟨rfl, rfl⟩, a1⟩, a2⟩) | ⟨⟨⟨rfl, rfl⟩, a1⟩, rfl⟩) | ⟨⟨⟨rfl, rfl⟩, a1⟩, rfl⟩) | ⟨⟨rfl, rfl⟩, rfl⟩
  · have := word_R c f3 f7 x a1 a2 hx a3
    simpa [rwordN, hasD1, has11, has21, gImm, fitsB, fitsE] using this
  · have := word_I c f3 x a1 a2 hx _ rfl
    simpa [rwordN, hasD1, has11, has21, gImm, fitsB, fitsE] using this
  · have := word_H c f3 f7 x a1 a3 hx a4
    have e : ((x : Int) / 1048576 % 64 % 4294967296).toNat * 1048576 % 4294967296 = x / 1048576 % 64 * 1048576 := by omega
    simp only [rwordN, hasD1, has11, has21, gImm, fitsB, fitsE]
    simpa [e, a2] using this
  · have := word_h 27 f3 f7 x (by decide) a3 hx a4
    have e : ((x : Int) / 1048576 % 32 % 4294967296).toNat * 1048576 % 4294967296 = x / 1048576 % 32 * 1048576 := by omega
    simp only [rwordN, hasD1, has11, has21, gImm, fitsB, fitsE]
    simpa [e] using this
  · have := word_S c f3 x a1 a2 hx _ rfl
    simpa [rwordN, hasD1, has11, has21, gImm, fitsB, fitsE] using this
  · have := word_B c f3 x a1 a2 hx _ rfl
    simpa [rwordN, hasD1, has11, has21, gImm, fitsB, fitsE] using this
  · have := word_U c 0 x a1 (by decide) hx _ rfl
    simpa [rwordN, hasD1, has11, has21, gImm, fitsB, fitsE] using this
  · have := word_J c 0 x a1 (by decide) hx _ rfl
    simpa [rwordN, hasD1, has11, has21, gImm, fitsB, fitsE] using this
  · simp [rwordN, hasD1, has11, has21, fitsB, headN, eq_comm]
end Go.Pat

/- patinaref01.guess: what a word would be as an operation's instruction. -/
namespace Go.Pat
open Go Go.RowKit
theorem sgn_mod (n c : Nat) : sgn (n % 2 ^ c) c = sgn n c := by unfold sgn; rw [Nat.mod_mod]
theorem orI (a b k : Nat) (ha : a < 2 ^ k) (hb : a + b * 2 ^ k < 4294967296) (z : Int) (hz : z = ((b * 2 ^ k : Nat) : Int)) : bits .or .u32 (a : Int) z = ((a + b * 2 ^ k : Nat) : Int) := by
  rw [hz, bits_or_u32 _ _ (by omega) (by omega), or_add a b k ha]
end Go.Pat
namespace Go.Proofs
open Go Go.RowKit Go.Pat
theorem below5 {a Wp : World} (hB : Below a.heap.size a Wp) (b : Nat) (hb : a.heap.size ≤ b) (v0 v1 v2 v3 v4 : Value) (o1 o2 : Obj) :
    Below a.heap.size a (((((((Wp.setCell ⟨b, 0, none⟩ v0).setCell ⟨b, 1, none⟩ v1).setCell ⟨b, 2, none⟩ v2).setCell ⟨b, 3, none⟩ v3).setCell ⟨b, 4, none⟩ v4).alloc o1).alloc o2) := by
  have hq := bset (bset (bset (bset (bset hB ⟨b, 0, none⟩ hb v0) ⟨b, 1, none⟩ hb v1) ⟨b, 2, none⟩ hb v2) ⟨b, 3, none⟩ hb v3) ⟨b, 4, none⟩ hb v4
  exact (hq.alloc hq.size _).alloc (hq.alloc hq.size _).size _
def GuessTo (op x : Nat) (w : World) (e : Ending) (w' : World) : Prop := e = .returned (.agg (gIns op x).cells) ∧ Below w.heap.size w w'
theorem gz_S (x : Nat) (hx : x < 4294967296) : bits .or .u32 ((x : Int) / 128 % 32) ((x : Int) / 33554432 % 128 * 32) = ((x / 128 % 32 + x / 33554432 * 32 : Nat) : Int) :=
  orI (x / 128 % 32) (x / 33554432) 5 (by omega) (by omega) _ (by omega)
theorem gz_B (x : Nat) (hx : x < 4294967296) : bits .or .u32 (bits .or .u32 (bits .or .u32 ((x : Int) / 256 % 16 * 2) ((x : Int) / 33554432 % 64 * 32)) ((x : Int) / 128 % 2 * 2048)) ((x : Int) / 2147483648 % 2 * 4096) = ((x / 256 % 16 * 2 + x / 33554432 % 64 * 32 + x / 128 % 2 * 2048 + x / 2147483648 * 4096 : Nat) : Int) := by
  have h1 := orI (x / 256 % 16 * 2) (x / 33554432 % 64) 5 (by omega) (by omega) ((x : Int) / 33554432 % 64 * 32) (by omega)
  have h2 := orI (x / 256 % 16 * 2 + x / 33554432 % 64 * 2 ^ 5) (x / 128 % 2) 11 (by omega) (by omega) ((x : Int) / 128 % 2 * 2048) (by omega)
  have h3 := orI (x / 256 % 16 * 2 + x / 33554432 % 64 * 2 ^ 5 + x / 128 % 2 * 2 ^ 11) (x / 2147483648) 12 (by omega) (by omega) ((x : Int) / 2147483648 % 2 * 4096) (by omega)
  rw [show ((x : Int) / 256 % 16 * 2) = ((x / 256 % 16 * 2 : Nat) : Int) by omega, h1, h2, h3]
theorem gz_J (x : Nat) (hx : x < 4294967296) : bits .or .u32 (bits .or .u32 (bits .or .u32 ((x : Int) / 2097152 % 1024 * 2) ((x : Int) / 1048576 % 2 * 2048)) ((x : Int) / 4096 % 256 * 4096)) ((x : Int) / 2147483648 % 2 * 1048576) = ((x / 2097152 % 1024 * 2 + x / 1048576 % 2 * 2048 + x / 4096 % 256 * 4096 + x / 2147483648 * 1048576 : Nat) : Int) := by
  have h1 := orI (x / 2097152 % 1024 * 2) (x / 1048576 % 2) 11 (by omega) (by omega) ((x : Int) / 1048576 % 2 * 2048) (by omega)
  have h2 := orI (x / 2097152 % 1024 * 2 + x / 1048576 % 2 * 2 ^ 11) (x / 4096 % 256) 12 (by omega) (by omega) ((x : Int) / 4096 % 256 * 4096) (by omega)
  have h3 := orI (x / 2097152 % 1024 * 2 + x / 1048576 % 2 * 2 ^ 11 + x / 4096 % 256 * 2 ^ 12) (x / 2147483648) 20 (by omega) (by omega) ((x : Int) / 2147483648 % 2 * 1048576) (by omega)
  rw [show ((x : Int) / 2097152 % 1024 * 2) = ((x / 2097152 % 1024 * 2 : Nat) : Int) by omega, h1, h2, h3]
end Go.Proofs

/- patinaref01.bits, Word: an instruction's word. -/
namespace Go.Pat
open Go Go.RowKit
theorem bitI_lt (n : Int) (f c : Nat) : bitI n f c < 2 ^ c := by
  unfold bitI
  have h : (0 : Int) < 2 ^ c := by rw [pow_int]; exact Int.ofNat_lt.2 (Nat.pow_pos (by decide))
  have h1 := Int.emod_lt_of_pos (n / 2 ^ f) h
  have h0 := Int.emod_nonneg (n / 2 ^ f) (Int.ne_of_gt h)
  exact (Int.toNat_lt h0).2 (by rw [← pow_int]; exact h1)
theorem bitI_mask (n : Int) (f c : Nat) (hc : c < 32) : bits .and .u32 (n / 2 ^ f % 4294967296) (((2 : Int) ^ c - 1) % 4294967296) = ((bitI n f c : Nat) : Int) := by
  have h0 : 0 ≤ n / 2 ^ f % 4294967296 := Int.emod_nonneg _ (by decide)
  have h1 : n / 2 ^ f % 4294967296 < 4294967296 := Int.emod_lt_of_pos _ (by decide)
  have hd : (2 : Int) ^ c ∣ 4294967296 := ⟨2 ^ (32 - c), by rw [← Int.pow_add, show c + (32 - c) = 32 by omega]; rfl⟩
  have e : (n / 2 ^ f % 4294967296).toNat % 2 ^ c = bitI n f c := by
    unfold bitI
    rw [← Int.emod_emod_of_dvd (n / 2 ^ f) hd, pow_int c]
    generalize n / 2 ^ f % 4294967296 = m at *
    obtain ⟨k, rfl⟩ : ∃ k : Nat, m = k := ⟨m.toNat, by omega⟩
    rw [← Int.natCast_emod]; rfl
  rw [mask_int c hc, show n / 2 ^ f % 4294967296 = ((n / 2 ^ f % 4294967296).toNat : Int) by omega, bits_mask _ c (by omega) hc, e]
theorem orN (a b : Nat) (ha : a < 4294967296) (hb : b < 4294967296) (y z : Int) (hy : y = (a : Int)) (hz : z = (b : Int)) : bits .or .u32 y z = ((a ||| b : Nat) : Int) := by
  rw [hy, hz, bits_or_u32 _ _ ha hb]
theorem headN_lt (c f3 d a b : Nat) (hc : c < 4294967296) (h3 : f3 < 8) (hd : d < 32) (ha : a < 32) (hb : b < 32) : headN c f3 d a b < 4294967296 :=
  or_lt32 (or_lt32 (or_lt32 (or_lt32 hc (by omega)) (by omega)) (by omega)) (by omega)
theorem headI (c f3 d a b : Nat) (hc : c < 4294967296) (h3 : f3 < 8) (hd : d < 32) (ha : a < 32) (hb : b < 32) :
    bits .or .u32 (bits .or .u32 (bits .or .u32 (bits .or .u32 (c : Int) ((f3 : Int) * 4096)) ((d : Int) * 128)) ((a : Int) * 32768)) ((b : Int) * 1048576) = ((headN c f3 d a b : Nat) : Int) := by
  unfold headN
  rw [orN c (f3 * 4096) hc (by omega) _ _ rfl (by omega), orN _ (d * 128) (or_lt32 hc (by omega)) (by omega) _ _ rfl (by omega), orN _ (a * 32768) (or_lt32 (or_lt32 hc (by omega)) (by omega)) (by omega) _ _ rfl (by omega),
    orN _ (b * 1048576) (or_lt32 (or_lt32 (or_lt32 hc (by omega)) (by omega)) (by omega)) (by omega) _ _ rfl (by omega)]
theorem form_bounds (op : Nat) (hop : op < 66) : (formR op).2.1 < 4294967296 ∧ (formR op).2.2.1 < 8 ∧ (formR op).2.2.2 < 64 :=
  (show ∀ k, k < 66 → (formR k).2.1 < 4294967296 ∧ (formR k).2.2.1 < 8 ∧ (formR k).2.2.2 < 64 by decide) op hop
end Go.Pat
namespace Go.Proofs
open Go Go.RowKit Go.Pat
def WordTo (l c f3 f7 d a b : Nat) (n : Int) (w : World) (e : Ending) (w' : World) : Prop := e = .returned (.int .u32 ((rwordN l c f3 f7 d a b n : Nat) : Int)) ∧ Below w.heap.size w w'
end Go.Proofs

/- patinaref01.Decode finds what patina/rv.Decode finds. -/
namespace Go.Pat
open Go Go.RowKit
theorem gIns_small (op x : Nat) : (gIns op x).rd < 32 ∧ (gIns op x).rs1 < 32 ∧ (gIns op x).rs2 < 32 := by
  unfold gIns
  refine ⟨?_, ?_, ?_⟩ <;> simp only <;> split <;> omega
theorem regB_of (n : Nat) (nm : Bool) (h : n < 32) : regB (if nm then n else 0 : Nat) nm = true := by
  cases nm
  · rfl
  · simp only [regB, if_true, Bool.and_eq_true, decide_eq_true_eq]; omega
theorem gIns_right (op x : Nat) (h1 : 1 ≤ op) (h2 : op < 66) : rightI (op : Int) (gIns op x).rd (gIns op x).rs1 (gIns op x).rs2 (gIns op x).imm = true := by
  have hl : (formR op).1 ∈ lettersL := formR_letter _
  have h0 : (formR op).1 ≠ 0 := by
    obtain ⟨k, rfl⟩ : ∃ k, op = k + 1 := ⟨op - 1, by omega⟩
    exact (show ∀ k, k < 65 → (formR (k + 1)).1 ≠ 0 by decide) k (by omega)
  unfold rightI formZ
  rw [Int.toNat_natCast]
  unfold gIns
  simp only
  rw [immB1_g _ x hl, regB_of _ _ (by omega), regB_of _ _ (by omega), regB_of _ _ (by omega)]
  simp [h0]
theorem bitsN_eq (w f c a : Nat) (h : w / 2 ^ f % 2 ^ c * 2 ^ a < 4294967296) : bitsN w f c a = w / 2 ^ f % 2 ^ c * 2 ^ a := Nat.mod_eq_of_lt h
theorem immV_S (x : Nat) (hx : x < 4294967296) : bitsN x 7 5 0 ||| bitsN x 25 7 5 = x / 128 % 32 + x / 33554432 * 32 := by
  rw [bitsN_eq _ _ _ _ (by omega), bitsN_eq _ _ _ _ (by omega), or_add _ _ 5 (by omega)]
  omega
theorem immV_B (x : Nat) (hx : x < 4294967296) : bitsN x 7 1 11 ||| bitsN x 8 4 1 ||| bitsN x 25 6 5 ||| bitsN x 31 1 12 = x / 256 % 16 * 2 + x / 33554432 % 64 * 32 + x / 128 % 2 * 2048 + x / 2147483648 * 4096 := by
  rw [Nat.or_comm (bitsN x 7 1 11), Nat.or_assoc (bitsN x 8 4 1), Nat.or_comm (bitsN x 7 1 11), ← Nat.or_assoc,
    bitsN_eq _ _ _ _ (by omega), bitsN_eq _ _ _ _ (by omega), bitsN_eq _ _ _ _ (by omega), bitsN_eq _ _ _ _ (by omega), or_add _ _ 5 (by omega), or_add _ _ 11 (by omega), or_add _ _ 12 (by omega)]
  omega
theorem immV_J (x : Nat) (hx : x < 4294967296) : bitsN x 12 8 12 ||| bitsN x 20 1 11 ||| bitsN x 21 10 1 ||| bitsN x 31 1 20 = x / 2097152 % 1024 * 2 + x / 1048576 % 2 * 2048 + x / 4096 % 256 * 4096 + x / 2147483648 * 1048576 := by
  rw [Nat.or_comm _ (bitsN x 21 10 1), Nat.or_comm (bitsN x 12 8 12), ← Nat.or_assoc,
    bitsN_eq _ _ _ _ (by omega), bitsN_eq _ _ _ _ (by omega), bitsN_eq _ _ _ _ (by omega), bitsN_eq _ _ _ _ (by omega), or_add _ _ 11 (by omega), or_add _ _ 12 (by omega), or_add _ _ 20 (by omega)]
  omega
theorem gIns_fits (op x : Nat) (h1 : 1 ≤ op) (h2 : op < 66) (hx : x < 4294967296) (hf : fitsR op x = true) : gIns op x = insOf op x := by
  have ht := tab_ok op h1 h2
  unfold gIns insOf
  unfold fitsR at hf
  unfold tabOK at ht
  generalize hF : formR op = F at *
  generalize hR : rvRow op = R at *
  obtain ⟨l, c, f3, f7⟩ := F
  simp only [Bool.or_eq_true, Bool.and_eq_true, beq_iff_eq, decide_eq_true_eq] at ht
  rcases ht with (((((((⟨⟨⟨⟨rfl, rfl⟩, a1⟩, a2⟩, a3⟩ | ⟨⟨⟨rfl, rfl⟩, a1⟩, a2⟩) | ⟨⟨⟨⟨⟨rfl, rfl⟩, a1⟩, a2⟩, a3⟩, a4⟩) | ⟨⟨⟨⟨rfl, rfl⟩, rfl⟩, a3⟩, a4⟩) | ⟨⟨⟨rfl, rfl⟩, a1⟩, a2⟩) | ⟨⟨⟨rfl, rfl⟩, a1⟩, a2⟩) | ⟨⟨⟨rfl, rfl⟩, a1⟩, rfl⟩) | ⟨⟨⟨rfl, rfl⟩, a1⟩, rfl⟩) | ⟨⟨rfl, rfl⟩, rfl⟩
  · simp [hasD1, hasD, has11, has1, has21, has2, gImm, immV]
  · simp [hasD1, hasD, has11, has1, has21, has2, gImm, immV]
  · simp [hasD1, hasD, has11, has1, has21, has2, gImm, immV]
  · have e : x / 1048576 % 32 = x / 1048576 % 64 := by
      simp [fitsB] at hf
      omega
    have e' : (x : Int) / 1048576 % 32 = (x : Int) / 1048576 % 64 := by omega
    simp [hasD1, hasD, has11, has1, has21, has2, gImm, immV, e']
  · simp [hasD1, hasD, has11, has1, has21, has2, gImm, immV, immV_S x hx]
  · simp [hasD1, hasD, has11, has1, has21, has2, gImm, immV, immV_B x hx]
  · simp [hasD1, hasD, has11, has1, has21, has2, gImm, immV]
  · simp [hasD1, hasD, has11, has1, has21, has2, gImm, immV, immV_J x hx]
  · simp [hasD1, hasD, has11, has1, has21, has2, gImm, immV]
end Go.Pat
namespace Go.Proofs
open Go Go.RowKit Go.Pat
end Go.Proofs
