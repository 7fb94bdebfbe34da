/- patinaref01.part, signed, guess: what a word would be as an operation's instruction. -/
import Derived.Test.YtemngapfnkokiaaGreatDoorFormBC
import Derived.Test.YtemngapfnkokiaaGreatDoorRvP
import Derived.Test.YtemngapfnkokiaaGreatDoorAlus
import Derived.Test.YtemngapfnkokiaaGreatDoorDec
import Derived.BigQuiet
import Derived.Deep.QuietTactic
namespace Go.Pat
open Go Go.RowKit
theorem sgn_hi (n c : Nat) (hn : n < 2 ^ c) (h : 2 ^ (c - 1) ≤ n) : sgn n c = (n : Int) - 2 ^ c := by
  unfold sgn
  rw [Nat.mod_eq_of_lt hn, if_neg (by omega)]
theorem sgn_lo (n c : Nat) (hn : n < 2 ^ c) (h : n < 2 ^ (c - 1)) : sgn n c = (n : Int) := by
  unfold sgn
  rw [Nat.mod_eq_of_lt hn, if_pos h]
end Go.Pat
namespace Go.Proofs
open Go Go.RowKit Go.Pat
theorem part_gen (x f c : Nat) (hx : x < 4294967296) (hf : f < 32) (hc : c < 32) (w : World) :
    Calls Tryz.prog 74 #[.int .u32 (x : Int), .int .u32 (f : Int), .int .u32 (c : Int)] w fun e w' => e = .returned (.int .u32 ((x / 2 ^ f % 2 ^ c : Nat) : Int)) ∧ w' = w := by
  have s1 : ∀ W : World, (Op.shift .shr .u32 (x : Int) .u32 (f : Int)).run Tryz.prog W = .ok (.int .u32 ((x / 2 ^ f : Nat) : Int)) W := fun W => by rw [run_shr .u32 .u32 x f f rfl hf W, fdiv_nat]
  have s2 : ∀ W : World, (Op.shift .shl .u32 1 .u32 (c : Int)).run Tryz.prog W = .ok (.int .u32 ((2 ^ c : Nat) : Int)) W := fun W => by
    rw [run_shl .u32 .u32 1 c c rfl hc W, Int.one_mul, show ((2 : Int) ^ c) = ((2 ^ c : Nat) : Int) by rw [Int.natCast_pow]; rfl, u32_nat _ (Nat.pow_lt_pow_right (by decide) hc)]
  go_enter Tryz.func74, Tryz.ntmps74
  go_wp2
  go_ret
  refine ⟨congrArg (fun z => Ending.returned (Value.int IntKind.u32 z)) ?_, rfl⟩
  rw [ediv_pow, mask_int c hc, Go.Pat.bits_mask _ c (Nat.lt_of_le_of_lt (Nat.div_le_self _ _) hx) hc]
theorem part_7_5 (x : Nat) (hx : x < 4294967296) (w : World) : Calls Tryz.prog 74 #[.int .u32 (x : Int), .int .u32 7, .int .u32 5] w fun e w' => e = .returned (.int .u32 ((x / 128 % 32 : Nat) : Int)) ∧ w' = w := part_gen x 7 5 hx (by decide) (by decide) w
theorem part_15_5 (x : Nat) (hx : x < 4294967296) (w : World) : Calls Tryz.prog 74 #[.int .u32 (x : Int), .int .u32 15, .int .u32 5] w fun e w' => e = .returned (.int .u32 ((x / 32768 % 32 : Nat) : Int)) ∧ w' = w := part_gen x 15 5 hx (by decide) (by decide) w
theorem part_20_5 (x : Nat) (hx : x < 4294967296) (w : World) : Calls Tryz.prog 74 #[.int .u32 (x : Int), .int .u32 20, .int .u32 5] w fun e w' => e = .returned (.int .u32 ((x / 1048576 % 32 : Nat) : Int)) ∧ w' = w := part_gen x 20 5 hx (by decide) (by decide) w
theorem part_20_12 (x : Nat) (hx : x < 4294967296) (w : World) : Calls Tryz.prog 74 #[.int .u32 (x : Int), .int .u32 20, .int .u32 12] w fun e w' => e = .returned (.int .u32 ((x / 1048576 % 4096 : Nat) : Int)) ∧ w' = w := part_gen x 20 12 hx (by decide) (by decide) w
theorem part_20_6 (x : Nat) (hx : x < 4294967296) (w : World) : Calls Tryz.prog 74 #[.int .u32 (x : Int), .int .u32 20, .int .u32 6] w fun e w' => e = .returned (.int .u32 ((x / 1048576 % 64 : Nat) : Int)) ∧ w' = w := part_gen x 20 6 hx (by decide) (by decide) w
theorem part_25_7 (x : Nat) (hx : x < 4294967296) (w : World) : Calls Tryz.prog 74 #[.int .u32 (x : Int), .int .u32 25, .int .u32 7] w fun e w' => e = .returned (.int .u32 ((x / 33554432 % 128 : Nat) : Int)) ∧ w' = w := part_gen x 25 7 hx (by decide) (by decide) w
theorem part_8_4 (x : Nat) (hx : x < 4294967296) (w : World) : Calls Tryz.prog 74 #[.int .u32 (x : Int), .int .u32 8, .int .u32 4] w fun e w' => e = .returned (.int .u32 ((x / 256 % 16 : Nat) : Int)) ∧ w' = w := part_gen x 8 4 hx (by decide) (by decide) w
theorem part_25_6 (x : Nat) (hx : x < 4294967296) (w : World) : Calls Tryz.prog 74 #[.int .u32 (x : Int), .int .u32 25, .int .u32 6] w fun e w' => e = .returned (.int .u32 ((x / 33554432 % 64 : Nat) : Int)) ∧ w' = w := part_gen x 25 6 hx (by decide) (by decide) w
theorem part_7_1 (x : Nat) (hx : x < 4294967296) (w : World) : Calls Tryz.prog 74 #[.int .u32 (x : Int), .int .u32 7, .int .u32 1] w fun e w' => e = .returned (.int .u32 ((x / 128 % 2 : Nat) : Int)) ∧ w' = w := part_gen x 7 1 hx (by decide) (by decide) w
theorem part_31_1 (x : Nat) (hx : x < 4294967296) (w : World) : Calls Tryz.prog 74 #[.int .u32 (x : Int), .int .u32 31, .int .u32 1] w fun e w' => e = .returned (.int .u32 ((x / 2147483648 % 2 : Nat) : Int)) ∧ w' = w := part_gen x 31 1 hx (by decide) (by decide) w
theorem part_12_20 (x : Nat) (hx : x < 4294967296) (w : World) : Calls Tryz.prog 74 #[.int .u32 (x : Int), .int .u32 12, .int .u32 20] w fun e w' => e = .returned (.int .u32 ((x / 4096 % 1048576 : Nat) : Int)) ∧ w' = w := part_gen x 12 20 hx (by decide) (by decide) w
theorem part_21_10 (x : Nat) (hx : x < 4294967296) (w : World) : Calls Tryz.prog 74 #[.int .u32 (x : Int), .int .u32 21, .int .u32 10] w fun e w' => e = .returned (.int .u32 ((x / 2097152 % 1024 : Nat) : Int)) ∧ w' = w := part_gen x 21 10 hx (by decide) (by decide) w
theorem part_20_1 (x : Nat) (hx : x < 4294967296) (w : World) : Calls Tryz.prog 74 #[.int .u32 (x : Int), .int .u32 20, .int .u32 1] w fun e w' => e = .returned (.int .u32 ((x / 1048576 % 2 : Nat) : Int)) ∧ w' = w := part_gen x 20 1 hx (by decide) (by decide) w
theorem part_12_8 (x : Nat) (hx : x < 4294967296) (w : World) : Calls Tryz.prog 74 #[.int .u32 (x : Int), .int .u32 12, .int .u32 8] w fun e w' => e = .returned (.int .u32 ((x / 4096 % 256 : Nat) : Int)) ∧ w' = w := part_gen x 12 8 hx (by decide) (by decide) w
theorem r1signed_12 (n : Nat) (hn : n < 4096) (z : Int) (hz : z = (n : Int)) (w : World) : Calls Tryz.prog 75 #[.int .u32 z, .int .u32 12] w fun e w' => e = .returned (.int .i64 (sgn n 12)) ∧ w' = w := by
  subst hz
  by_cases h : 2048 ≤ n
  · have HS := Lib.hid (sgn_hi n 12 hn h)
    have t1 : (bits .and .u32 ((n : Int) / 2048) 1 == 1) = true := by
      rw [show ((n : Int) / 2048) = ((n / 2048 : Nat) : Int) from (Int.natCast_ediv n 2048).symm, show (1 : Int) = ((2 ^ 1 - 1 : Nat) : Int) from rfl, Go.Pat.bits_mask _ 1 (by omega) (by decide), show n / 2048 % 2 ^ 1 = 1 by omega]
      rfl
    go_enter Tryz.func75, Tryz.ntmps75
    go_wp2
    go_ret
    refine ⟨congrArg (fun z => Ending.returned (Value.int IntKind.i64 z)) ?_, rfl⟩
    first | (rw [HS.out]; done) | (rw [HS.out]; rfl) | (rw [HS.out]; omega)
  · have HS := Lib.hid (sgn_lo n 12 hn (by omega))
    have t1 : (bits .and .u32 ((n : Int) / 2048) 1 == 1) = false := by
      rw [show ((n : Int) / 2048) = ((n / 2048 : Nat) : Int) from (Int.natCast_ediv n 2048).symm, show (1 : Int) = ((2 ^ 1 - 1 : Nat) : Int) from rfl, Go.Pat.bits_mask _ 1 (by omega) (by decide), show n / 2048 % 2 ^ 1 = 0 by omega]
      rfl
    go_enter Tryz.func75, Tryz.ntmps75
    go_wp2
    go_ret
    refine ⟨congrArg (fun z => Ending.returned (Value.int IntKind.i64 z)) ?_, rfl⟩
    first | (rw [HS.out]; done) | (rw [HS.out]; rfl) | (rw [HS.out]; omega)
theorem r1signed_13 (n : Nat) (hn : n < 8192) (z : Int) (hz : z = (n : Int)) (w : World) : Calls Tryz.prog 75 #[.int .u32 z, .int .u32 13] w fun e w' => e = .returned (.int .i64 (sgn n 13)) ∧ w' = w := by
  subst hz
  by_cases h : 4096 ≤ n
  · have HS := Lib.hid (sgn_hi n 13 hn h)
    have t1 : (bits .and .u32 ((n : Int) / 4096) 1 == 1) = true := by
      rw [show ((n : Int) / 4096) = ((n / 4096 : Nat) : Int) from (Int.natCast_ediv n 4096).symm, show (1 : Int) = ((2 ^ 1 - 1 : Nat) : Int) from rfl, Go.Pat.bits_mask _ 1 (by omega) (by decide), show n / 4096 % 2 ^ 1 = 1 by omega]
      rfl
    go_enter Tryz.func75, Tryz.ntmps75
    go_wp2
    go_ret
    refine ⟨congrArg (fun z => Ending.returned (Value.int IntKind.i64 z)) ?_, rfl⟩
    first | (rw [HS.out]; done) | (rw [HS.out]; rfl) | (rw [HS.out]; omega)
  · have HS := Lib.hid (sgn_lo n 13 hn (by omega))
    have t1 : (bits .and .u32 ((n : Int) / 4096) 1 == 1) = false := by
      rw [show ((n : Int) / 4096) = ((n / 4096 : Nat) : Int) from (Int.natCast_ediv n 4096).symm, show (1 : Int) = ((2 ^ 1 - 1 : Nat) : Int) from rfl, Go.Pat.bits_mask _ 1 (by omega) (by decide), show n / 4096 % 2 ^ 1 = 0 by omega]
      rfl
    go_enter Tryz.func75, Tryz.ntmps75
    go_wp2
    go_ret
    refine ⟨congrArg (fun z => Ending.returned (Value.int IntKind.i64 z)) ?_, rfl⟩
    first | (rw [HS.out]; done) | (rw [HS.out]; rfl) | (rw [HS.out]; omega)
theorem r1signed_20 (n : Nat) (hn : n < 1048576) (z : Int) (hz : z = (n : Int)) (w : World) : Calls Tryz.prog 75 #[.int .u32 z, .int .u32 20] w fun e w' => e = .returned (.int .i64 (sgn n 20)) ∧ w' = w := by
  subst hz
  by_cases h : 524288 ≤ n
  · have HS := Lib.hid (sgn_hi n 20 hn h)
    have t1 : (bits .and .u32 ((n : Int) / 524288) 1 == 1) = true := by
      rw [show ((n : Int) / 524288) = ((n / 524288 : Nat) : Int) from (Int.natCast_ediv n 524288).symm, show (1 : Int) = ((2 ^ 1 - 1 : Nat) : Int) from rfl, Go.Pat.bits_mask _ 1 (by omega) (by decide), show n / 524288 % 2 ^ 1 = 1 by omega]
      rfl
    go_enter Tryz.func75, Tryz.ntmps75
    go_wp2
    go_ret
    refine ⟨congrArg (fun z => Ending.returned (Value.int IntKind.i64 z)) ?_, rfl⟩
    first | (rw [HS.out]; done) | (rw [HS.out]; rfl) | (rw [HS.out]; omega)
  · have HS := Lib.hid (sgn_lo n 20 hn (by omega))
    have t1 : (bits .and .u32 ((n : Int) / 524288) 1 == 1) = false := by
      rw [show ((n : Int) / 524288) = ((n / 524288 : Nat) : Int) from (Int.natCast_ediv n 524288).symm, show (1 : Int) = ((2 ^ 1 - 1 : Nat) : Int) from rfl, Go.Pat.bits_mask _ 1 (by omega) (by decide), show n / 524288 % 2 ^ 1 = 0 by omega]
      rfl
    go_enter Tryz.func75, Tryz.ntmps75
    go_wp2
    go_ret
    refine ⟨congrArg (fun z => Ending.returned (Value.int IntKind.i64 z)) ?_, rfl⟩
    first | (rw [HS.out]; done) | (rw [HS.out]; rfl) | (rw [HS.out]; omega)
theorem r1signed_21 (n : Nat) (hn : n < 2097152) (z : Int) (hz : z = (n : Int)) (w : World) : Calls Tryz.prog 75 #[.int .u32 z, .int .u32 21] w fun e w' => e = .returned (.int .i64 (sgn n 21)) ∧ w' = w := by
  subst hz
  by_cases h : 1048576 ≤ n
  · have HS := Lib.hid (sgn_hi n 21 hn h)
    have t1 : (bits .and .u32 ((n : Int) / 1048576) 1 == 1) = true := by
      rw [show ((n : Int) / 1048576) = ((n / 1048576 : Nat) : Int) from (Int.natCast_ediv n 1048576).symm, show (1 : Int) = ((2 ^ 1 - 1 : Nat) : Int) from rfl, Go.Pat.bits_mask _ 1 (by omega) (by decide), show n / 1048576 % 2 ^ 1 = 1 by omega]
      rfl
    go_enter Tryz.func75, Tryz.ntmps75
    go_wp2
    go_ret
    refine ⟨congrArg (fun z => Ending.returned (Value.int IntKind.i64 z)) ?_, rfl⟩
    first | (rw [HS.out]; done) | (rw [HS.out]; rfl) | (rw [HS.out]; omega)
  · have HS := Lib.hid (sgn_lo n 21 hn (by omega))
    have t1 : (bits .and .u32 ((n : Int) / 1048576) 1 == 1) = false := by
      rw [show ((n : Int) / 1048576) = ((n / 1048576 : Nat) : Int) from (Int.natCast_ediv n 1048576).symm, show (1 : Int) = ((2 ^ 1 - 1 : Nat) : Int) from rfl, Go.Pat.bits_mask _ 1 (by omega) (by decide), show n / 1048576 % 2 ^ 1 = 0 by omega]
      rfl
    go_enter Tryz.func75, Tryz.ntmps75
    go_wp2
    go_ret
    refine ⟨congrArg (fun z => Ending.returned (Value.int IntKind.i64 z)) ?_, rfl⟩
    first | (rw [HS.out]; done) | (rw [HS.out]; rfl) | (rw [HS.out]; omega)
end Go.Proofs

/- An instruction's word, and the word's instruction: what patinaref01.Decode finds is what patina/rv.Decode finds. Plain: no program in sight. -/
namespace Go.Pat
open Go Go.RowKit
theorem or_add (a b k : Nat) (h : a < 2 ^ k) : a ||| b * 2 ^ k = a + b * 2 ^ k := by
  have := Nat.shiftLeft_add_eq_or_of_lt h b
  rw [Nat.shiftLeft_eq] at this
  rw [Nat.or_comm, ← this, Nat.add_comm]
/-- a word of parts. -/
theorem or5 (c f d a b : Nat) (h1 : c < 128) (h2 : f < 8) (h3 : d < 32) (h4 : a < 32) (_h5 : b < 32) :
    c ||| f * 4096 ||| d * 128 ||| a * 32768 ||| b * 1048576 = c + d * 128 + f * 4096 + a * 32768 + b * 1048576 := by
  have e1 : c ||| f * 4096 ||| d * 128 = c ||| d * 128 ||| f * 4096 := by rw [Nat.or_assoc, Nat.or_comm (f * 4096), ← Nat.or_assoc]
  rw [e1, show (128:Nat) = 2 ^ 7 from rfl, show (4096:Nat) = 2 ^ 12 from rfl, show (32768:Nat) = 2 ^ 15 from rfl, show (1048576:Nat) = 2 ^ 20 from rfl,
    or_add c d 7 (by omega), or_add _ f 12 (by omega), or_add _ a 15 (by omega), or_add _ b 20 (by omega)]
/-- bits of a number, from one on, so many. -/
def bitI (n : Int) (f c : Nat) : Nat := (n / 2 ^ f % 2 ^ c).toNat
theorem bitI_sgn12 (v : Nat) (h : v < 4096) : bitI (sgn v 12) 0 12 = v ∧ bitI (sgn v 12) 0 5 = v % 32 ∧ bitI (sgn v 12) 5 7 = v / 32 := by
  unfold bitI sgn
  simp only [Nat.mod_eq_of_lt (show v < 2 ^ 12 from h)]
  split <;> refine ⟨?_, ?_, ?_⟩ <;> omega
theorem bitI_sgn13 (v : Nat) (h : v < 8192) : bitI (sgn v 13) 11 1 = v / 2048 % 2 ∧ bitI (sgn v 13) 1 4 = v / 2 % 16 ∧ bitI (sgn v 13) 5 6 = v / 32 % 64 ∧ bitI (sgn v 13) 12 1 = v / 4096 := by
  unfold bitI sgn
  simp only [Nat.mod_eq_of_lt (show v < 2 ^ 13 from h)]
  split <;> refine ⟨?_, ?_, ?_, ?_⟩ <;> omega
theorem bitI_sgn20 (v : Nat) (h : v < 1048576) : bitI (sgn v 20) 0 20 = v := by
  unfold bitI sgn
  simp only [Nat.mod_eq_of_lt (show v < 2 ^ 20 from h)]
  split <;> omega
theorem bitI_sgn21 (v : Nat) (h : v < 2097152) : bitI (sgn v 21) 12 8 = v / 4096 % 256 ∧ bitI (sgn v 21) 11 1 = v / 2048 % 2 ∧ bitI (sgn v 21) 1 10 = v / 2 % 1024 ∧ bitI (sgn v 21) 20 1 = v / 1048576 := by
  unfold bitI sgn
  simp only [Nat.mod_eq_of_lt (show v < 2 ^ 21 from h)]
  split <;> refine ⟨?_, ?_, ?_, ?_⟩ <;> omega
/-- a word as an operation's row says, out of an instruction's fields. -/
def headN (c f3 d a b : Nat) : Nat := c ||| f3 * 4096 ||| d * 128 ||| a * 32768 ||| b * 1048576
def rwordN (l c f3 f7 d a b : Nat) (n : Int) : Nat :=
  if l = 82 then headN c f3 d a b ||| f7 * 33554432
  else if l = 73 then headN c f3 d a b ||| bitI n 0 12 * 1048576
  else if l = 72 ∨ l = 104 then headN c f3 d a b ||| f7 * 33554432 ||| (n % 4294967296).toNat * 1048576 % 4294967296
  else if l = 83 then headN c f3 d a b ||| bitI n 0 5 * 128 ||| bitI n 5 7 * 33554432
  else if l = 66 then headN c f3 d a b ||| bitI n 11 1 * 128 ||| bitI n 1 4 * 256 ||| bitI n 5 6 * 33554432 ||| bitI n 12 1 * 2147483648
  else if l = 85 then headN c f3 d a b ||| bitI n 0 20 * 4096
  else if l = 74 then headN c f3 d a b ||| bitI n 12 8 * 4096 ||| bitI n 11 1 * 1048576 ||| bitI n 1 10 * 2097152 ||| bitI n 20 1 * 2147483648
  else headN c f3 d a b
theorem or_mid (lo hi y k m : Nat) (hl : lo < 2 ^ k) (hy : y < 2 ^ m) : (lo + hi * 2 ^ (k + m)) ||| y * 2 ^ k = lo + y * 2 ^ k + hi * 2 ^ (k + m) := by
  have h2 : lo + y * 2 ^ k < 2 ^ (k + m) := by
    have : y * 2 ^ k + 2 ^ k ≤ 2 ^ m * 2 ^ k := by
      rw [← Nat.succ_mul]; exact Nat.mul_le_mul_right _ hy
    rw [Nat.pow_add, Nat.mul_comm (2 ^ k)]
    omega
  rw [← or_add lo hi (k + m) (by omega), Nat.or_assoc, Nat.or_comm (hi * 2 ^ (k + m)), ← Nat.or_assoc, or_add lo y k hl, or_add _ hi (k + m) h2]
theorem split6 (x : Nat) (hx : x < 4294967296) : x = x % 128 + x / 128 % 32 * 128 + x / 4096 % 8 * 4096 + x / 32768 % 32 * 32768 + x / 1048576 % 32 * 1048576 + x / 33554432 * 33554432 ∧ x % 128 < 128 ∧ x / 128 % 32 < 32 ∧ x / 4096 % 8 < 8 ∧ x / 32768 % 32 < 32 ∧ x / 1048576 % 32 < 32 ∧ x / 33554432 < 128 := by
  have a0 := Nat.div_add_mod (x) 128
  have a1 := Nat.div_add_mod (x / 128) 32
  rw [Nat.div_div_eq_div_mul] at a1
  have a2 := Nat.div_add_mod (x / 4096) 8
  rw [Nat.div_div_eq_div_mul] at a2
  have a3 := Nat.div_add_mod (x / 32768) 32
  rw [Nat.div_div_eq_div_mul] at a3
  have a4 := Nat.div_add_mod (x / 1048576) 32
  rw [Nat.div_div_eq_div_mul] at a4
  have b6 : x / 33554432 < 128 := by omega
  have b0 := Nat.mod_lt (x) (show 128 > 0 by decide)
  have b1 := Nat.mod_lt (x / 128) (show 32 > 0 by decide)
  have b2 := Nat.mod_lt (x / 4096) (show 8 > 0 by decide)
  have b3 := Nat.mod_lt (x / 32768) (show 32 > 0 by decide)
  have b4 := Nat.mod_lt (x / 1048576) (show 32 > 0 by decide)
  refine ⟨?_, b0, b1, b2, b3, b4, b6⟩
  clear hx b0 b1 b2 b3 b4 b6
  generalize x % 128 = m0 at *
  generalize x / 128 % 32 = m1 at *
  generalize x / 4096 % 8 = m2 at *
  generalize x / 32768 % 32 = m3 at *
  generalize x / 1048576 % 32 = m4 at *
  generalize x / 128 = q0 at *
  generalize x / 4096 = q1 at *
  generalize x / 32768 = q2 at *
  generalize x / 1048576 = q3 at *
  generalize x / 33554432 = q4 at *
  omega
theorem splitB (x : Nat) (hx : x < 4294967296) : x = x % 128 + x / 128 % 2 * 128 + x / 256 % 16 * 256 + x / 4096 % 8 * 4096 + x / 32768 % 32 * 32768 + x / 1048576 % 32 * 1048576 + x / 33554432 % 64 * 33554432 + x / 2147483648 * 2147483648 ∧ x % 128 < 128 ∧ x / 128 % 2 < 2 ∧ x / 256 % 16 < 16 ∧ x / 4096 % 8 < 8 ∧ x / 32768 % 32 < 32 ∧ x / 1048576 % 32 < 32 ∧ x / 33554432 % 64 < 64 ∧ x / 2147483648 < 2 := by
  have a0 := Nat.div_add_mod (x) 128
  have a1 := Nat.div_add_mod (x / 128) 2
  rw [Nat.div_div_eq_div_mul] at a1
  have a2 := Nat.div_add_mod (x / 256) 16
  rw [Nat.div_div_eq_div_mul] at a2
  have a3 := Nat.div_add_mod (x / 4096) 8
  rw [Nat.div_div_eq_div_mul] at a3
  have a4 := Nat.div_add_mod (x / 32768) 32
  rw [Nat.div_div_eq_div_mul] at a4
  have a5 := Nat.div_add_mod (x / 1048576) 32
  rw [Nat.div_div_eq_div_mul] at a5
  have a6 := Nat.div_add_mod (x / 33554432) 64
  rw [Nat.div_div_eq_div_mul] at a6
  have b8 : x / 2147483648 < 2 := by omega
  have b0 := Nat.mod_lt (x) (show 128 > 0 by decide)
  have b1 := Nat.mod_lt (x / 128) (show 2 > 0 by decide)
  have b2 := Nat.mod_lt (x / 256) (show 16 > 0 by decide)
  have b3 := Nat.mod_lt (x / 4096) (show 8 > 0 by decide)
  have b4 := Nat.mod_lt (x / 32768) (show 32 > 0 by decide)
  have b5 := Nat.mod_lt (x / 1048576) (show 32 > 0 by decide)
  have b6 := Nat.mod_lt (x / 33554432) (show 64 > 0 by decide)
  refine ⟨?_, b0, b1, b2, b3, b4, b5, b6, b8⟩
  clear hx b0 b1 b2 b3 b4 b5 b6 b8
  generalize x % 128 = m0 at *
  generalize x / 128 % 2 = m1 at *
  generalize x / 256 % 16 = m2 at *
  generalize x / 4096 % 8 = m3 at *
  generalize x / 32768 % 32 = m4 at *
  generalize x / 1048576 % 32 = m5 at *
  generalize x / 33554432 % 64 = m6 at *
  generalize x / 128 = q0 at *
  generalize x / 256 = q1 at *
  generalize x / 4096 = q2 at *
  generalize x / 32768 = q3 at *
  generalize x / 1048576 = q4 at *
  generalize x / 33554432 = q5 at *
  generalize x / 2147483648 = q6 at *
  omega
theorem splitJ (x : Nat) (hx : x < 4294967296) : x = x % 128 + x / 128 % 32 * 128 + x / 4096 % 256 * 4096 + x / 1048576 % 2 * 1048576 + x / 2097152 % 1024 * 2097152 + x / 2147483648 * 2147483648 ∧ x % 128 < 128 ∧ x / 128 % 32 < 32 ∧ x / 4096 % 256 < 256 ∧ x / 1048576 % 2 < 2 ∧ x / 2097152 % 1024 < 1024 ∧ x / 2147483648 < 2 := by
  have a0 := Nat.div_add_mod (x) 128
  have a1 := Nat.div_add_mod (x / 128) 32
  rw [Nat.div_div_eq_div_mul] at a1
  have a2 := Nat.div_add_mod (x / 4096) 256
  rw [Nat.div_div_eq_div_mul] at a2
  have a3 := Nat.div_add_mod (x / 1048576) 2
  rw [Nat.div_div_eq_div_mul] at a3
  have a4 := Nat.div_add_mod (x / 2097152) 1024
  rw [Nat.div_div_eq_div_mul] at a4
  have b6 : x / 2147483648 < 2 := by omega
  have b0 := Nat.mod_lt (x) (show 128 > 0 by decide)
  have b1 := Nat.mod_lt (x / 128) (show 32 > 0 by decide)
  have b2 := Nat.mod_lt (x / 4096) (show 256 > 0 by decide)
  have b3 := Nat.mod_lt (x / 1048576) (show 2 > 0 by decide)
  have b4 := Nat.mod_lt (x / 2097152) (show 1024 > 0 by decide)
  refine ⟨?_, b0, b1, b2, b3, b4, b6⟩
  clear hx b0 b1 b2 b3 b4 b6
  generalize x % 128 = m0 at *
  generalize x / 128 % 32 = m1 at *
  generalize x / 4096 % 256 = m2 at *
  generalize x / 1048576 % 2 = m3 at *
  generalize x / 2097152 % 1024 = m4 at *
  generalize x / 128 = q0 at *
  generalize x / 4096 = q1 at *
  generalize x / 1048576 = q2 at *
  generalize x / 2097152 = q3 at *
  generalize x / 2147483648 = q4 at *
  omega
theorem im13 (d e p t : Nat) (hd : d < 16) (he : e < 64) (hp : p < 2) (_ht : t < 2) : (d * 2 + e * 32 + p * 2048 + t * 4096) / 2048 % 2 = p ∧ (d * 2 + e * 32 + p * 2048 + t * 4096) / 2 % 16 = d ∧ (d * 2 + e * 32 + p * 2048 + t * 4096) / 32 % 64 = e ∧ (d * 2 + e * 32 + p * 2048 + t * 4096) / 4096 = t := by
  have h1 : (d * 2 + e * 32 + p * 2048 + t * 4096) / 2048 = p + 2 * t := by omega
  have h2 : (d * 2 + e * 32 + p * 2048 + t * 4096) / 2 = d + 16 * (e + p * 64 + t * 128) := by omega
  have h3 : (d * 2 + e * 32 + p * 2048 + t * 4096) / 32 = e + 64 * (p + t * 2) := by omega
  rw [h1, h2, h3]
  refine ⟨by omega, by omega, by omega, by omega⟩
theorem im21 (e p f t : Nat) (he : e < 1024) (hp : p < 2) (hf : f < 256) (_ht : t < 2) : (e * 2 + p * 2048 + f * 4096 + t * 1048576) / 4096 % 256 = f ∧ (e * 2 + p * 2048 + f * 4096 + t * 1048576) / 2048 % 2 = p ∧ (e * 2 + p * 2048 + f * 4096 + t * 1048576) / 2 % 1024 = e ∧ (e * 2 + p * 2048 + f * 4096 + t * 1048576) / 1048576 = t := by
  have h1 : (e * 2 + p * 2048 + f * 4096 + t * 1048576) / 4096 = f + 256 * t := by omega
  have h2 : (e * 2 + p * 2048 + f * 4096 + t * 1048576) / 2048 = p + 2 * (f + t * 256) := by omega
  have h3 : (e * 2 + p * 2048 + f * 4096 + t * 1048576) / 2 = e + 1024 * (p + 2 * f + 512 * t) := by omega
  rw [h1, h2, h3]
  refine ⟨by omega, by omega, by omega, by omega⟩
section
variable (c f3 f7 x : Nat)
theorem word_R (hc : c < 128) (h3 : f3 < 8) (_hx : x < 4294967296) (_h7 : f7 < 128) : headN c f3 (x / 128 % 32) (x / 32768 % 32) (x / 1048576 % 32) ||| f7 * 33554432 = x ↔ x / 33554432 = f7 ∧ x % 128 = c ∧ x / 4096 % 8 = f3 := by
  unfold headN
  rw [or5 _ _ _ _ _ hc h3 (by omega) (by omega) (by omega), show (33554432:Nat) = 2 ^ 25 from rfl, or_add _ f7 25 (by omega)]
  omega
theorem word_I (hc : c < 128) (h3 : f3 < 8) (hx : x < 4294967296) (n : Int) (hn : n = sgn (x / 1048576) 12) : headN c f3 (x / 128 % 32) (x / 32768 % 32) 0 ||| bitI n 0 12 * 1048576 = x ↔ x % 128 = c ∧ x / 4096 % 8 = f3 := by
  subst hn
  unfold headN
  rw [(bitI_sgn12 (x / 1048576) (by omega)).1, or5 _ _ _ _ _ hc h3 (by omega) (by omega) (by omega), show (1048576:Nat) = 2 ^ 20 from rfl, or_add _ (x / 2 ^ 20) 20 (by omega)]
  omega
theorem word_H (hc : c < 128) (h3 : f3 < 8) (hx : x < 4294967296) (h7 : f7 = 0 ∨ f7 = 32) : headN c f3 (x / 128 % 32) (x / 32768 % 32) 0 ||| f7 * 33554432 ||| x / 1048576 % 64 * 1048576 = x ↔ x / 67108864 * 2 = f7 ∧ x % 128 = c ∧ x / 4096 % 8 = f3 := by
  unfold headN
  rw [or5 _ _ _ _ _ hc h3 (by omega) (by omega) (by omega)]
  rcases h7 with rfl | rfl
  · rw [Nat.zero_mul, Nat.or_zero, show (1048576:Nat) = 2 ^ 20 from rfl, or_add _ (x / 2 ^ 20 % 64) 20 (by omega)]
    omega
  · rw [show 32 * 33554432 = 1 * 2 ^ 30 from rfl, or_add _ 1 30 (by omega), show c + x / 128 % 32 * 128 + f3 * 4096 + x / 32768 % 32 * 32768 + 0 * 1048576 + 1 * 2 ^ 30 = (c + x / 128 % 32 * 128 + f3 * 4096 + x / 32768 % 32 * 32768) + 16 * 2 ^ (20 + 6) by omega, show (1048576:Nat) = 2 ^ 20 from rfl, or_mid _ 16 (x / 2 ^ 20 % 64) 20 6 (by omega) (by omega)]
    omega
theorem word_h (hc : c < 128) (h3 : f3 < 8) (hx : x < 4294967296) (h7 : f7 = 0 ∨ f7 = 32) : headN c f3 (x / 128 % 32) (x / 32768 % 32) 0 ||| f7 * 33554432 ||| x / 1048576 % 32 * 1048576 = x ↔ x / 33554432 = f7 ∧ x % 128 = c ∧ x / 4096 % 8 = f3 := by
  unfold headN
  rw [or5 _ _ _ _ _ hc h3 (by omega) (by omega) (by omega)]
  rcases h7 with rfl | rfl
  · rw [Nat.zero_mul, Nat.or_zero, show (1048576:Nat) = 2 ^ 20 from rfl, or_add _ (x / 2 ^ 20 % 32) 20 (by omega)]
    omega
  · rw [show 32 * 33554432 = 1 * 2 ^ 30 from rfl, or_add _ 1 30 (by omega), show c + x / 128 % 32 * 128 + f3 * 4096 + x / 32768 % 32 * 32768 + 0 * 1048576 + 1 * 2 ^ 30 = (c + x / 128 % 32 * 128 + f3 * 4096 + x / 32768 % 32 * 32768) + 16 * 2 ^ (20 + 6) by omega, show (1048576:Nat) = 2 ^ 20 from rfl, or_mid _ 16 (x / 2 ^ 20 % 32) 20 6 (by omega) (by omega)]
    omega
theorem word_S (hc : c < 128) (h3 : f3 < 8) (hx : x < 4294967296) (n : Int) (hn : n = sgn (x / 128 % 32 + x / 33554432 * 32) 12) : headN c f3 0 (x / 32768 % 32) (x / 1048576 % 32) ||| bitI n 0 5 * 128 ||| bitI n 5 7 * 33554432 = x ↔ x % 128 = c ∧ x / 4096 % 8 = f3 := by
  subst hn
  obtain ⟨hs, g1, g2, g3, g4, g5, g6⟩ := split6 x hx
  generalize x % 128 = o at *
  generalize x / 128 % 32 = d at *
  generalize x / 4096 % 8 = f at *
  generalize x / 32768 % 32 = a at *
  generalize x / 1048576 % 32 = b at *
  generalize x / 33554432 = e at *
  obtain ⟨_, e1, e2⟩ := bitI_sgn12 (d + e * 32) (by omega)
  unfold headN
  rw [e1, e2, or5 _ _ _ _ _ hc h3 (by omega) g4 g5, show (d + e * 32) % 32 = d by omega, show (d + e * 32) / 32 = e by omega, show c + 0 * 128 + f3 * 4096 + a * 32768 + b * 1048576 = c + (f3 + a * 8 + b * 256) * 2 ^ (7 + 5) by omega,
    show (128 : Nat) = 2 ^ 7 from rfl, or_mid _ _ _ 7 5 hc g2, show (33554432:Nat) = 2 ^ 25 from rfl, or_add _ _ 25 (by omega)]
  omega
theorem word_B (hc : c < 128) (h3 : f3 < 8) (hx : x < 4294967296) (n : Int) (hn : n = sgn (x / 256 % 16 * 2 + x / 33554432 % 64 * 32 + x / 128 % 2 * 2048 + x / 2147483648 * 4096) 13) :
    headN c f3 0 (x / 32768 % 32) (x / 1048576 % 32) ||| bitI n 11 1 * 128 ||| bitI n 1 4 * 256 ||| bitI n 5 6 * 33554432 ||| bitI n 12 1 * 2147483648 = x ↔ x % 128 = c ∧ x / 4096 % 8 = f3 := by
  subst hn
  obtain ⟨hs, g1, g2, g3, g4, g5, g6, g7, g8⟩ := splitB x hx
  generalize x % 128 = o at *
  generalize x / 128 % 2 = p at *
  generalize x / 256 % 16 = d at *
  generalize x / 4096 % 8 = f at *
  generalize x / 32768 % 32 = a at *
  generalize x / 1048576 % 32 = b at *
  generalize x / 33554432 % 64 = e at *
  generalize x / 2147483648 = t at *
  obtain ⟨e1, e2, e3, e4⟩ := bitI_sgn13 (d * 2 + e * 32 + p * 2048 + t * 4096) (by omega)
  unfold headN
  rw [e1, e2, e3, e4, or5 _ _ _ _ _ hc h3 (by omega) g5 g6, (im13 d e p t g3 g7 g2 g8).1, (im13 d e p t g3 g7 g2 g8).2.1, (im13 d e p t g3 g7 g2 g8).2.2.1, (im13 d e p t g3 g7 g2 g8).2.2.2,
    show c + 0 * 128 + f3 * 4096 + a * 32768 + b * 1048576 = c + ((f3 + a * 8 + b * 256) * 16) * 2 ^ (7 + 1) by omega,
    show p * 128 = p * 2 ^ 7 from rfl, or_mid _ _ _ 7 1 hc (by omega), show c + p * 2 ^ 7 + ((f3 + a * 8 + b * 256) * 16) * 2 ^ (7 + 1) = (c + p * 2 ^ 7) + (f3 + a * 8 + b * 256) * 2 ^ (8 + 4) by omega,
    show d * 256 = d * 2 ^ 8 from rfl, or_mid _ _ _ 8 4 (by omega) (by omega), show (33554432:Nat) = 2 ^ 25 from rfl, or_add _ _ 25 (by omega), show (2147483648:Nat) = 2 ^ 31 from rfl, or_add _ _ 31 (by omega)]
  omega
theorem word_U (hc : c < 128) (_h3 : f3 < 8) (hx : x < 4294967296) (n : Int) (hn : n = sgn (x / 4096) 20) : headN c 0 (x / 128 % 32) 0 0 ||| bitI n 0 20 * 4096 = x ↔ x % 128 = c := by
  subst hn
  unfold headN
  rw [bitI_sgn20 (x / 4096) (by omega), or5 _ _ _ _ _ hc (by omega) (by omega) (by omega) (by omega), show (4096:Nat) = 2 ^ 12 from rfl, or_add _ _ 12 (by omega)]
  omega
theorem word_J (hc : c < 128) (_h3 : f3 < 8) (hx : x < 4294967296) (n : Int) (hn : n = sgn (x / 2097152 % 1024 * 2 + x / 1048576 % 2 * 2048 + x / 4096 % 256 * 4096 + x / 2147483648 * 1048576) 21) :
    headN c 0 (x / 128 % 32) 0 0 ||| bitI n 12 8 * 4096 ||| bitI n 11 1 * 1048576 ||| bitI n 1 10 * 2097152 ||| bitI n 20 1 * 2147483648 = x ↔ x % 128 = c := by
  subst hn
  obtain ⟨hs, g1, g2, g3, g4, g5, g6⟩ := splitJ x hx
  generalize x % 128 = o at *
  generalize x / 128 % 32 = d at *
  generalize x / 4096 % 256 = f at *
  generalize x / 1048576 % 2 = p at *
  generalize x / 2097152 % 1024 = e at *
  generalize x / 2147483648 = t at *
  obtain ⟨e1, e2, e3, e4⟩ := bitI_sgn21 (e * 2 + p * 2048 + f * 4096 + t * 1048576) (by omega)
  unfold headN
  rw [e1, e2, e3, e4, or5 _ _ _ _ _ hc (by omega) (by omega) (by omega) (by omega), (im21 e p f t g5 g4 g3 g6).1, (im21 e p f t g5 g4 g3 g6).2.1, (im21 e p f t g5 g4 g3 g6).2.2.1, (im21 e p f t g5 g4 g3 g6).2.2.2,
    show f * 4096 = f * 2 ^ 12 from rfl, or_add _ _ 12 (by omega), show p * 1048576 = p * 2 ^ 20 from rfl, or_add _ _ 20 (by omega),
    show e * 2097152 = e * 2 ^ 21 from rfl, or_add _ _ 21 (by omega), show t * 2147483648 = t * 2 ^ 31 from rfl, or_add _ _ 31 (by omega)]
  omega
end
/-- the number of a word, as an operation's letter says. -/
def gImm (l x : Nat) : Int :=
  if l = 73 then sgn (x / 1048576) 12
  else if l = 72 then ((x / 1048576 % 64 : Nat) : Int)
  else if l = 104 then ((x / 1048576 % 32 : Nat) : Int)
  else if l = 83 then sgn (x / 128 % 32 + x / 33554432 * 32) 12
  else if l = 66 then sgn (x / 256 % 16 * 2 + x / 33554432 % 64 * 32 + x / 128 % 2 * 2048 + x / 2147483648 * 4096) 13
  else if l = 85 then sgn (x / 4096) 20
  else if l = 74 then sgn (x / 2097152 % 1024 * 2 + x / 1048576 % 2 * 2048 + x / 4096 % 256 * 4096 + x / 2147483648 * 1048576) 21
  else 0
/-- what a word would be as an operation's instruction. -/
def gIns (op x : Nat) : Ins :=
  ⟨op, if hasD1 (formR op).1 then x / 128 % 32 else 0, if has11 (formR op).1 then x / 32768 % 32 else 0, if has21 (formR op).1 then x / 1048576 % 32 else 0, gImm (formR op).1 x⟩
theorem sgn12_rng (n : Nat) : -2048 ≤ sgn n 12 ∧ sgn n 12 ≤ 2047 := by unfold sgn; split <;> omega
theorem sgn13_rng (n : Nat) : -4096 ≤ sgn n 13 ∧ sgn n 13 ≤ 4095 := by unfold sgn; split <;> omega
theorem sgn13_even (n : Nat) (h : n % 2 = 0) : sgn n 13 % 2 = 0 := by unfold sgn; split <;> omega
theorem sgn20_rng (n : Nat) : -524288 ≤ sgn n 20 ∧ sgn n 20 ≤ 524287 := by unfold sgn; split <;> omega
theorem sgn21_rng (n : Nat) : -1048576 ≤ sgn n 21 ∧ sgn n 21 ≤ 1048575 := by unfold sgn; split <;> omega
theorem sgn21_even (n : Nat) (h : n % 2 = 0) : sgn n 21 % 2 = 0 := by unfold sgn; split <;> omega
theorem immB1_g (l x : Nat) (hl : l ∈ lettersL) : immB1 l (gImm l x) = true := by
  simp only [lettersL, List.mem_cons, List.not_mem_nil, or_false] at hl
  rcases hl with rfl | rfl | rfl | rfl | rfl | rfl | rfl | rfl | rfl | rfl <;> simp only [immB1, gImm, reduceCtorEq, Nat.reduceEqDiff, if_true, if_false, or_self, or_true, or_false, Bool.and_eq_true, decide_eq_true_eq, beq_iff_eq]
  · exact sgn20_rng _
  · refine ⟨⟨(sgn21_rng _).1, ?_⟩, sgn21_even _ (by omega)⟩
    have h1 := sgn21_rng (x / 2097152 % 1024 * 2 + x / 1048576 % 2 * 2048 + x / 4096 % 256 * 4096 + x / 2147483648 * 1048576)
    have h2 := sgn21_even (x / 2097152 % 1024 * 2 + x / 1048576 % 2 * 2048 + x / 4096 % 256 * 4096 + x / 2147483648 * 1048576) (by omega)
    generalize sgn _ 21 = z at *
    omega
  · exact sgn12_rng _
  · refine ⟨⟨(sgn13_rng _).1, ?_⟩, sgn13_even _ (by omega)⟩
    have h1 := sgn13_rng (x / 256 % 16 * 2 + x / 33554432 % 64 * 32 + x / 128 % 2 * 2048 + x / 2147483648 * 4096)
    have h2 := sgn13_even (x / 256 % 16 * 2 + x / 33554432 % 64 * 32 + x / 128 % 2 * 2048 + x / 2147483648 * 4096) (by omega)
    generalize sgn _ 13 = z at *
    omega
  · exact sgn12_rng _
  · omega
  · omega
/-- what an operation's two tables say of one another. -/
def tabOK (op : Nat) : Bool :=
  let f := formR op
  let r := rvRow op
  (f.1 == 82 && r == f && decide (f.2.1 < 128) && decide (f.2.2.1 < 8) && decide (f.2.2.2 < 128)) ||
  (f.1 == 73 && r == f && decide (f.2.1 < 128) && decide (f.2.2.1 < 8)) ||
  (f.1 == 72 && r == f && decide (f.2.1 < 128) && decide (f.2.1 ≠ 27) && decide (f.2.2.1 < 8) && (f.2.2.2 == 0 || f.2.2.2 == 32)) ||
  (f.1 == 104 && r == (72, 27, f.2.2.1, f.2.2.2) && decide (f.2.1 = 27) && decide (f.2.2.1 < 8) && (f.2.2.2 == 0 || f.2.2.2 == 32)) ||
  (f.1 == 83 && r == f && decide (f.2.1 < 128) && decide (f.2.2.1 < 8)) ||
  (f.1 == 66 && r == f && decide (f.2.1 < 128) && decide (f.2.2.1 < 8)) ||
  (f.1 == 85 && r == f && decide (f.2.1 < 128) && f.2.2.1 == 0) ||
  (f.1 == 74 && r == f && decide (f.2.1 < 128) && f.2.2.1 == 0) ||
  (f.1 == 78 && r == f && f.2.2.1 == 0)
theorem tab_ok (op : Nat) (h1 : 1 ≤ op) (h2 : op < 66) : tabOK op = true := by
  obtain ⟨k, rfl⟩ : ∃ k, op = k + 1 := ⟨op - 1, by omega⟩
  exact (show ∀ k, k < 65 → tabOK (k + 1) = true by decide) k (by omega)
def gWord (op x : Nat) : Nat := rwordN (formR op).1 (formR op).2.1 (formR op).2.2.1 (formR op).2.2.2 (gIns op x).rd (gIns op x).rs1 (gIns op x).rs2 (gIns op x).imm
theorem gWord_fits (op x : Nat) (h1 : 1 ≤ op) (h2 : op < 66) (hx : x < 4294967296) : gWord op x = x ↔ fitsR op x = true := by
  have ht := tab_ok op h1 h2
  unfold gWord gIns fitsR
  unfold tabOK at ht
  generalize hF : formR op = F at *
  generalize hR : rvRow op = R at *
  obtain ⟨l, c, f3, f7⟩ := F
  simp only [Bool.or_eq_true, Bool.and_eq_true, beq_iff_eq, decide_eq_true_eq] at ht
  rcases ht with (((((((⟨⟨⟨⟨rfl, rfl⟩, a1⟩, a2⟩, a3⟩ | ⟨⟨⟨rfl, rfl⟩, a1⟩, a2⟩) | ⟨⟨⟨⟨⟨rfl, rfl⟩, a1⟩, a2⟩, a3⟩, a4⟩) | ⟨⟨⟨⟨rfl, rfl⟩, rfl⟩, a3⟩, a4⟩) | ⟨⟨⟨rfl, rfl⟩, a1⟩, a2⟩) | ⟨⟨⟨rfl, rfl⟩, a1⟩, a2⟩) | ⟨⟨⟨rfl, rfl⟩, a1⟩, rfl⟩) | ⟨⟨⟨rfl, rfl⟩, a1⟩, rfl⟩) | ⟨⟨rfl, rfl⟩, rfl⟩
  · have := word_R c f3 f7 x a1 a2 hx a3
    simpa [rwordN, hasD1, has11, has21, gImm, fitsB, fitsE] using this
  · have := word_I c f3 x a1 a2 hx _ rfl
    simpa [rwordN, hasD1, has11, has21, gImm, fitsB, fitsE] using this
  · have := word_H c f3 f7 x a1 a3 hx a4
    have e : ((x : Int) / 1048576 % 64 % 4294967296).toNat * 1048576 % 4294967296 = x / 1048576 % 64 * 1048576 := by omega
    simp only [rwordN, hasD1, has11, has21, gImm, fitsB, fitsE]
    simpa [e, a2] using this
  · have := word_h 27 f3 f7 x (by decide) a3 hx a4
    have e : ((x : Int) / 1048576 % 32 % 4294967296).toNat * 1048576 % 4294967296 = x / 1048576 % 32 * 1048576 := by omega
    simp only [rwordN, hasD1, has11, has21, gImm, fitsB, fitsE]
    simpa [e] using this
  · have := word_S c f3 x a1 a2 hx _ rfl
    simpa [rwordN, hasD1, has11, has21, gImm, fitsB, fitsE] using this
  · have := word_B c f3 x a1 a2 hx _ rfl
    simpa [rwordN, hasD1, has11, has21, gImm, fitsB, fitsE] using this
  · have := word_U c 0 x a1 (by decide) hx _ rfl
    simpa [rwordN, hasD1, has11, has21, gImm, fitsB, fitsE] using this
  · have := word_J c 0 x a1 (by decide) hx _ rfl
    simpa [rwordN, hasD1, has11, has21, gImm, fitsB, fitsE] using this
  · simp [rwordN, hasD1, has11, has21, fitsB, headN, eq_comm]
end Go.Pat

/- patinaref01.guess: what a word would be as an operation's instruction. -/
namespace Go.Pat
open Go Go.RowKit
theorem sgn_mod (n c : Nat) : sgn (n % 2 ^ c) c = sgn n c := by unfold sgn; rw [Nat.mod_mod]
theorem orI (a b k : Nat) (ha : a < 2 ^ k) (hb : a + b * 2 ^ k < 4294967296) (z : Int) (hz : z = ((b * 2 ^ k : Nat) : Int)) : bits .or .u32 (a : Int) z = ((a + b * 2 ^ k : Nat) : Int) := by
  rw [hz, bits_or_u32 _ _ (by omega) (by omega), or_add a b k ha]
end Go.Pat
namespace Go.Proofs
open Go Go.RowKit Go.Pat
theorem gr_ret (tmps : Array Value) (Wp : World) (b : Nat) (hb : Wp.heap[b]? = some (.cells z5 78 (0, 0))) (v0 v1 v2 v3 v4 : Value) (o1 o2 : Obj) (Post : Ending → World → Prop) (h2 : tmps[4]?.getD undef = .pointer (some ⟨b, 0, none⟩))
    (h : Post (.returned (.agg #[v0, v1, v2, v3, v4])) (((((((Wp.setCell ⟨b, 0, none⟩ v0).setCell ⟨b, 1, none⟩ v1).setCell ⟨b, 2, none⟩ v2).setCell ⟨b, 3, none⟩ v3).setCell ⟨b, 4, none⟩ v4).alloc o1).alloc o2)) :
    bodyPost Tryz.prog Tryz.f53 Post Exit.ret ⟨tmps, []⟩ (((((((Wp.setCell ⟨b, 0, none⟩ v0).setCell ⟨b, 1, none⟩ v1).setCell ⟨b, 2, none⟩ v2).setCell ⟨b, 3, none⟩ v3).setCell ⟨b, 4, none⟩ v4).alloc o1).alloc o2) := by
  have hX := obj_set (obj_set (obj_set (obj_set (obj_set hb 0 v0) 1 v1) 2 v2) 3 v3) 4 v4
  have hc : ((((z5.setIfInBounds 0 v0).setIfInBounds 1 v1).setIfInBounds 2 v2).setIfInBounds 3 v3).setIfInBounds 4 v4 = #[v0, v1, v2, v3, v4] := by simp [z5]
  rw [hc] at hX
  exact bodyPost_ret (results_cell_row rfl _ _ b 78 #[v0, v1, v2, v3, v4] (0, 0) _ (by simpa using h2) (obj_alloc (obj_alloc hX)) Tryz.underlying78 rfl Tryz_sizeIns) rfl h
theorem below5 {a Wp : World} (hB : Below a.heap.size a Wp) (b : Nat) (hb : a.heap.size ≤ b) (v0 v1 v2 v3 v4 : Value) (o1 o2 : Obj) :
    Below a.heap.size a (((((((Wp.setCell ⟨b, 0, none⟩ v0).setCell ⟨b, 1, none⟩ v1).setCell ⟨b, 2, none⟩ v2).setCell ⟨b, 3, none⟩ v3).setCell ⟨b, 4, none⟩ v4).alloc o1).alloc o2) := by
  have hq := bset (bset (bset (bset (bset hB ⟨b, 0, none⟩ hb v0) ⟨b, 1, none⟩ hb v1) ⟨b, 2, none⟩ hb v2) ⟨b, 3, none⟩ hb v3) ⟨b, 4, none⟩ hb v4
  exact (hq.alloc hq.size _).alloc (hq.alloc hq.size _).size _
def GuessTo (op x : Nat) (w : World) (e : Ending) (w' : World) : Prop := e = .returned (.agg (gIns op x).cells) ∧ Below w.heap.size w w'
theorem gz_S (x : Nat) (hx : x < 4294967296) : bits .or .u32 ((x : Int) / 128 % 32) ((x : Int) / 33554432 % 128 * 32) = ((x / 128 % 32 + x / 33554432 * 32 : Nat) : Int) :=
  orI (x / 128 % 32) (x / 33554432) 5 (by omega) (by omega) _ (by omega)
theorem gz_B (x : Nat) (hx : x < 4294967296) : bits .or .u32 (bits .or .u32 (bits .or .u32 ((x : Int) / 256 % 16 * 2) ((x : Int) / 33554432 % 64 * 32)) ((x : Int) / 128 % 2 * 2048)) ((x : Int) / 2147483648 % 2 * 4096) = ((x / 256 % 16 * 2 + x / 33554432 % 64 * 32 + x / 128 % 2 * 2048 + x / 2147483648 * 4096 : Nat) : Int) := by
  have h1 := orI (x / 256 % 16 * 2) (x / 33554432 % 64) 5 (by omega) (by omega) ((x : Int) / 33554432 % 64 * 32) (by omega)
  have h2 := orI (x / 256 % 16 * 2 + x / 33554432 % 64 * 2 ^ 5) (x / 128 % 2) 11 (by omega) (by omega) ((x : Int) / 128 % 2 * 2048) (by omega)
  have h3 := orI (x / 256 % 16 * 2 + x / 33554432 % 64 * 2 ^ 5 + x / 128 % 2 * 2 ^ 11) (x / 2147483648) 12 (by omega) (by omega) ((x : Int) / 2147483648 % 2 * 4096) (by omega)
  rw [show ((x : Int) / 256 % 16 * 2) = ((x / 256 % 16 * 2 : Nat) : Int) by omega, h1, h2, h3]
theorem gz_J (x : Nat) (hx : x < 4294967296) : bits .or .u32 (bits .or .u32 (bits .or .u32 ((x : Int) / 2097152 % 1024 * 2) ((x : Int) / 1048576 % 2 * 2048)) ((x : Int) / 4096 % 256 * 4096)) ((x : Int) / 2147483648 % 2 * 1048576) = ((x / 2097152 % 1024 * 2 + x / 1048576 % 2 * 2048 + x / 4096 % 256 * 4096 + x / 2147483648 * 1048576 : Nat) : Int) := by
  have h1 := orI (x / 2097152 % 1024 * 2) (x / 1048576 % 2) 11 (by omega) (by omega) ((x : Int) / 1048576 % 2 * 2048) (by omega)
  have h2 := orI (x / 2097152 % 1024 * 2 + x / 1048576 % 2 * 2 ^ 11) (x / 4096 % 256) 12 (by omega) (by omega) ((x : Int) / 4096 % 256 * 4096) (by omega)
  have h3 := orI (x / 2097152 % 1024 * 2 + x / 1048576 % 2 * 2 ^ 11 + x / 4096 % 256 * 2 ^ 12) (x / 2147483648) 20 (by omega) (by omega) ((x : Int) / 2147483648 % 2 * 1048576) (by omega)
  rw [show ((x : Int) / 2097152 % 1024 * 2) = ((x / 2097152 % 1024 * 2 : Nat) : Int) by omega, h1, h2, h3]
set_option maxRecDepth 20000 in
set_option maxHeartbeats 4000000 in
theorem guess_0 (op x : Nat) (_hop : op < 66) (_hx : x < 4294967296) (hl : (formR op).1 = 0) (w : World) : Calls Tryz.prog 53 #[.int .i64 (op : Int), .int .u32 (x : Int)] w (GuessTo op x w) := by
  have HV := Lib.hid (show (gIns op x).cells = #[.int .i64 (op : Int), .int .i64 0, .int .i64 0, .int .i64 0, .int .i64 0] by unfold gIns; rw [hl]; simp [Ins.cells, hasD1, has11, has21, gImm])
  have HF := Lib.hid (fun W => FormOf_any (op : Int) W)
  have HH := Lib.hid (fun W => r1Has_any 0 (by decide) W)
  unfold FormTo formV formZ at HF
  unfold HasTo at HH
  rw [Int.toNat_natCast] at HF
  generalize formR op = F at *
  obtain ⟨l, c, f3, f7⟩ := F
  obtain rfl : l = 0 := hl
  have hb0 : (w.alloc (.cells z5 78)).heap[w.heap.size]? = some (.cells z5 78 (0, 0)) := heap_alloc_new w _
  go_enter Tryz.func53, Tryz.ntmps53
  go_wp2_with fail
  refine Calls.mono (HF.out _) ?_
  rintro e w1 ⟨rfl, hB1⟩
  have hB0 : Below w.heap.size w (w.alloc (.cells z5 78)) := form1 w _
  have hBw := hB0.trans (hB1.mono hB0.size)
  have hb1 : w1.heap[w.heap.size]? = some (.cells z5 78 (0, 0)) := (hB1.block _ (by rw [World.size_alloc]; omega)).trans hb0
  have hz : w.heap.size < w1.heap.size := by have := hB1.size; rw [World.size_alloc] at this; omega
  have x0 : w1.cell? ⟨w.heap.size, 0, none⟩ = some (.int .i64 0) := (obj_cell hb1 0).trans rfl
  have x1 : w1.cell? ⟨w.heap.size, 1, none⟩ = some (.int .i64 0) := (obj_cell hb1 1).trans rfl
  have x2 : w1.cell? ⟨w.heap.size, 2, none⟩ = some (.int .i64 0) := (obj_cell hb1 2).trans rfl
  have x3 : w1.cell? ⟨w.heap.size, 3, none⟩ = some (.int .i64 0) := (obj_cell hb1 3).trans rfl
  have x4 : w1.cell? ⟨w.heap.size, 4, none⟩ = some (.int .i64 0) := (obj_cell hb1 4).trans rfl
  have y0 : w1.frozen? ⟨w.heap.size, 0, none⟩ = false := obj_frozen hb1 0
  have y1 : w1.frozen? ⟨w.heap.size, 1, none⟩ = false := obj_frozen hb1 1
  have y2 : w1.frozen? ⟨w.heap.size, 2, none⟩ = false := obj_frozen hb1 2
  have y3 : w1.frozen? ⟨w.heap.size, 3, none⟩ = false := obj_frozen hb1 3
  have y4 : w1.frozen? ⟨w.heap.size, 4, none⟩ = false := obj_frozen hb1 4
  have HZ := Lib.hid hb1
  clear hb1 hb0 hB0
  go_wp2_with (first
    | (go_at_call 73; refine (HH.out _).mono ?_; rintro e w' ⟨rfl, rfl⟩)
    | fail)
  refine gr_ret _ _ w.heap.size HZ.out _ _ _ _ _ _ _ _ (by rfl) ⟨by rw [HV.out] <;> (rfl), below5 hBw _ (Nat.le_refl _) _ _ _ _ _ _ _⟩
set_option maxRecDepth 20000 in
set_option maxHeartbeats 4000000 in
theorem guess_78 (op x : Nat) (_hop : op < 66) (_hx : x < 4294967296) (hl : (formR op).1 = 78) (w : World) : Calls Tryz.prog 53 #[.int .i64 (op : Int), .int .u32 (x : Int)] w (GuessTo op x w) := by
  have HV := Lib.hid (show (gIns op x).cells = #[.int .i64 (op : Int), .int .i64 0, .int .i64 0, .int .i64 0, .int .i64 0] by unfold gIns; rw [hl]; simp [Ins.cells, hasD1, has11, has21, gImm])
  have HF := Lib.hid (fun W => FormOf_any (op : Int) W)
  have HH := Lib.hid (fun W => r1Has_any 78 (by decide) W)
  unfold FormTo formV formZ at HF
  unfold HasTo at HH
  rw [Int.toNat_natCast] at HF
  generalize formR op = F at *
  obtain ⟨l, c, f3, f7⟩ := F
  obtain rfl : l = 78 := hl
  have hb0 : (w.alloc (.cells z5 78)).heap[w.heap.size]? = some (.cells z5 78 (0, 0)) := heap_alloc_new w _
  go_enter Tryz.func53, Tryz.ntmps53
  go_wp2_with fail
  refine Calls.mono (HF.out _) ?_
  rintro e w1 ⟨rfl, hB1⟩
  have hB0 : Below w.heap.size w (w.alloc (.cells z5 78)) := form1 w _
  have hBw := hB0.trans (hB1.mono hB0.size)
  have hb1 : w1.heap[w.heap.size]? = some (.cells z5 78 (0, 0)) := (hB1.block _ (by rw [World.size_alloc]; omega)).trans hb0
  have hz : w.heap.size < w1.heap.size := by have := hB1.size; rw [World.size_alloc] at this; omega
  have x0 : w1.cell? ⟨w.heap.size, 0, none⟩ = some (.int .i64 0) := (obj_cell hb1 0).trans rfl
  have x1 : w1.cell? ⟨w.heap.size, 1, none⟩ = some (.int .i64 0) := (obj_cell hb1 1).trans rfl
  have x2 : w1.cell? ⟨w.heap.size, 2, none⟩ = some (.int .i64 0) := (obj_cell hb1 2).trans rfl
  have x3 : w1.cell? ⟨w.heap.size, 3, none⟩ = some (.int .i64 0) := (obj_cell hb1 3).trans rfl
  have x4 : w1.cell? ⟨w.heap.size, 4, none⟩ = some (.int .i64 0) := (obj_cell hb1 4).trans rfl
  have y0 : w1.frozen? ⟨w.heap.size, 0, none⟩ = false := obj_frozen hb1 0
  have y1 : w1.frozen? ⟨w.heap.size, 1, none⟩ = false := obj_frozen hb1 1
  have y2 : w1.frozen? ⟨w.heap.size, 2, none⟩ = false := obj_frozen hb1 2
  have y3 : w1.frozen? ⟨w.heap.size, 3, none⟩ = false := obj_frozen hb1 3
  have y4 : w1.frozen? ⟨w.heap.size, 4, none⟩ = false := obj_frozen hb1 4
  have HZ := Lib.hid hb1
  clear hb1 hb0 hB0
  go_wp2_with (first
    | (go_at_call 73; refine (HH.out _).mono ?_; rintro e w' ⟨rfl, rfl⟩)
    | fail)
  refine gr_ret _ _ w.heap.size HZ.out _ _ _ _ _ _ _ _ (by rfl) ⟨by rw [HV.out] <;> (rfl), below5 hBw _ (Nat.le_refl _) _ _ _ _ _ _ _⟩
set_option maxRecDepth 20000 in
set_option maxHeartbeats 4000000 in
theorem guess_82 (op x : Nat) (_hop : op < 66) (hx : x < 4294967296) (hl : (formR op).1 = 82) (w : World) : Calls Tryz.prog 53 #[.int .i64 (op : Int), .int .u32 (x : Int)] w (GuessTo op x w) := by
  have HV := Lib.hid (show (gIns op x).cells = #[.int .i64 (op : Int), .int .i64 ((x / 128 % 32 : Nat) : Int), .int .i64 ((x / 32768 % 32 : Nat) : Int), .int .i64 ((x / 1048576 % 32 : Nat) : Int), .int .i64 0] by unfold gIns; rw [hl]; simp [Ins.cells, hasD1, has11, has21, gImm])
  have HF := Lib.hid (fun W => FormOf_any (op : Int) W)
  have HH := Lib.hid (fun W => r1Has_any 82 (by decide) W)
  unfold FormTo formV formZ at HF
  unfold HasTo at HH
  rw [Int.toNat_natCast] at HF
  generalize formR op = F at *
  obtain ⟨l, c, f3, f7⟩ := F
  obtain rfl : l = 82 := hl
  have hb0 : (w.alloc (.cells z5 78)).heap[w.heap.size]? = some (.cells z5 78 (0, 0)) := heap_alloc_new w _
  go_enter Tryz.func53, Tryz.ntmps53
  go_wp2_with fail
  refine Calls.mono (HF.out _) ?_
  rintro e w1 ⟨rfl, hB1⟩
  have hB0 : Below w.heap.size w (w.alloc (.cells z5 78)) := form1 w _
  have hBw := hB0.trans (hB1.mono hB0.size)
  have hb1 : w1.heap[w.heap.size]? = some (.cells z5 78 (0, 0)) := (hB1.block _ (by rw [World.size_alloc]; omega)).trans hb0
  have hz : w.heap.size < w1.heap.size := by have := hB1.size; rw [World.size_alloc] at this; omega
  have x0 : w1.cell? ⟨w.heap.size, 0, none⟩ = some (.int .i64 0) := (obj_cell hb1 0).trans rfl
  have x1 : w1.cell? ⟨w.heap.size, 1, none⟩ = some (.int .i64 0) := (obj_cell hb1 1).trans rfl
  have x2 : w1.cell? ⟨w.heap.size, 2, none⟩ = some (.int .i64 0) := (obj_cell hb1 2).trans rfl
  have x3 : w1.cell? ⟨w.heap.size, 3, none⟩ = some (.int .i64 0) := (obj_cell hb1 3).trans rfl
  have x4 : w1.cell? ⟨w.heap.size, 4, none⟩ = some (.int .i64 0) := (obj_cell hb1 4).trans rfl
  have y0 : w1.frozen? ⟨w.heap.size, 0, none⟩ = false := obj_frozen hb1 0
  have y1 : w1.frozen? ⟨w.heap.size, 1, none⟩ = false := obj_frozen hb1 1
  have y2 : w1.frozen? ⟨w.heap.size, 2, none⟩ = false := obj_frozen hb1 2
  have y3 : w1.frozen? ⟨w.heap.size, 3, none⟩ = false := obj_frozen hb1 3
  have y4 : w1.frozen? ⟨w.heap.size, 4, none⟩ = false := obj_frozen hb1 4
  have HZ := Lib.hid hb1
  clear hb1 hb0 hB0
  go_wp2_with (first
    | (go_at_call 73; refine (HH.out _).mono ?_; rintro e w' ⟨rfl, rfl⟩)
    | (go_at_call 74; (with_reducible refine (part_7_5 x hx _).mono ?_); rintro e w' ⟨rfl, rfl⟩)
    | (go_at_call 74; (with_reducible refine (part_15_5 x hx _).mono ?_); rintro e w' ⟨rfl, rfl⟩)
    | (go_at_call 74; (with_reducible refine (part_20_5 x hx _).mono ?_); rintro e w' ⟨rfl, rfl⟩))
  refine gr_ret _ _ w.heap.size HZ.out _ _ _ _ _ _ _ _ (by rfl) ⟨by rw [HV.out] <;> (rfl), below5 hBw _ (Nat.le_refl _) _ _ _ _ _ _ _⟩
set_option maxRecDepth 20000 in
set_option maxHeartbeats 4000000 in
theorem guess_72 (op x : Nat) (_hop : op < 66) (hx : x < 4294967296) (hl : (formR op).1 = 72) (w : World) : Calls Tryz.prog 53 #[.int .i64 (op : Int), .int .u32 (x : Int)] w (GuessTo op x w) := by
  have HV := Lib.hid (show (gIns op x).cells = #[.int .i64 (op : Int), .int .i64 ((x / 128 % 32 : Nat) : Int), .int .i64 ((x / 32768 % 32 : Nat) : Int), .int .i64 0, .int .i64 ((x / 1048576 % 64 : Nat) : Int)] by unfold gIns; rw [hl]; simp [Ins.cells, hasD1, has11, has21, gImm])
  have HF := Lib.hid (fun W => FormOf_any (op : Int) W)
  have HH := Lib.hid (fun W => r1Has_any 72 (by decide) W)
  unfold FormTo formV formZ at HF
  unfold HasTo at HH
  rw [Int.toNat_natCast] at HF
  generalize formR op = F at *
  obtain ⟨l, c, f3, f7⟩ := F
  obtain rfl : l = 72 := hl
  have hb0 : (w.alloc (.cells z5 78)).heap[w.heap.size]? = some (.cells z5 78 (0, 0)) := heap_alloc_new w _
  go_enter Tryz.func53, Tryz.ntmps53
  go_wp2_with fail
  refine Calls.mono (HF.out _) ?_
  rintro e w1 ⟨rfl, hB1⟩
  have hB0 : Below w.heap.size w (w.alloc (.cells z5 78)) := form1 w _
  have hBw := hB0.trans (hB1.mono hB0.size)
  have hb1 : w1.heap[w.heap.size]? = some (.cells z5 78 (0, 0)) := (hB1.block _ (by rw [World.size_alloc]; omega)).trans hb0
  have hz : w.heap.size < w1.heap.size := by have := hB1.size; rw [World.size_alloc] at this; omega
  have x0 : w1.cell? ⟨w.heap.size, 0, none⟩ = some (.int .i64 0) := (obj_cell hb1 0).trans rfl
  have x1 : w1.cell? ⟨w.heap.size, 1, none⟩ = some (.int .i64 0) := (obj_cell hb1 1).trans rfl
  have x2 : w1.cell? ⟨w.heap.size, 2, none⟩ = some (.int .i64 0) := (obj_cell hb1 2).trans rfl
  have x3 : w1.cell? ⟨w.heap.size, 3, none⟩ = some (.int .i64 0) := (obj_cell hb1 3).trans rfl
  have x4 : w1.cell? ⟨w.heap.size, 4, none⟩ = some (.int .i64 0) := (obj_cell hb1 4).trans rfl
  have y0 : w1.frozen? ⟨w.heap.size, 0, none⟩ = false := obj_frozen hb1 0
  have y1 : w1.frozen? ⟨w.heap.size, 1, none⟩ = false := obj_frozen hb1 1
  have y2 : w1.frozen? ⟨w.heap.size, 2, none⟩ = false := obj_frozen hb1 2
  have y3 : w1.frozen? ⟨w.heap.size, 3, none⟩ = false := obj_frozen hb1 3
  have y4 : w1.frozen? ⟨w.heap.size, 4, none⟩ = false := obj_frozen hb1 4
  have HZ := Lib.hid hb1
  clear hb1 hb0 hB0
  go_wp2_with (first
    | (go_at_call 73; refine (HH.out _).mono ?_; rintro e w' ⟨rfl, rfl⟩)
    | (go_at_call 74; (with_reducible refine (part_7_5 x hx _).mono ?_); rintro e w' ⟨rfl, rfl⟩)
    | (go_at_call 74; (with_reducible refine (part_15_5 x hx _).mono ?_); rintro e w' ⟨rfl, rfl⟩)
    | (go_at_call 74; (with_reducible refine (part_20_6 x hx _).mono ?_); rintro e w' ⟨rfl, rfl⟩))
  refine gr_ret _ _ w.heap.size HZ.out _ _ _ _ _ _ _ _ (by rfl) ⟨by rw [HV.out] <;> (rfl), below5 hBw _ (Nat.le_refl _) _ _ _ _ _ _ _⟩
set_option maxRecDepth 20000 in
set_option maxHeartbeats 4000000 in
theorem guess_104 (op x : Nat) (_hop : op < 66) (hx : x < 4294967296) (hl : (formR op).1 = 104) (w : World) : Calls Tryz.prog 53 #[.int .i64 (op : Int), .int .u32 (x : Int)] w (GuessTo op x w) := by
  have HV := Lib.hid (show (gIns op x).cells = #[.int .i64 (op : Int), .int .i64 ((x / 128 % 32 : Nat) : Int), .int .i64 ((x / 32768 % 32 : Nat) : Int), .int .i64 0, .int .i64 ((x / 1048576 % 32 : Nat) : Int)] by unfold gIns; rw [hl]; simp [Ins.cells, hasD1, has11, has21, gImm])
  have HF := Lib.hid (fun W => FormOf_any (op : Int) W)
  have HH := Lib.hid (fun W => r1Has_any 104 (by decide) W)
  unfold FormTo formV formZ at HF
  unfold HasTo at HH
  rw [Int.toNat_natCast] at HF
  generalize formR op = F at *
  obtain ⟨l, c, f3, f7⟩ := F
  obtain rfl : l = 104 := hl
  have hb0 : (w.alloc (.cells z5 78)).heap[w.heap.size]? = some (.cells z5 78 (0, 0)) := heap_alloc_new w _
  go_enter Tryz.func53, Tryz.ntmps53
  go_wp2_with fail
  refine Calls.mono (HF.out _) ?_
  rintro e w1 ⟨rfl, hB1⟩
  have hB0 : Below w.heap.size w (w.alloc (.cells z5 78)) := form1 w _
  have hBw := hB0.trans (hB1.mono hB0.size)
  have hb1 : w1.heap[w.heap.size]? = some (.cells z5 78 (0, 0)) := (hB1.block _ (by rw [World.size_alloc]; omega)).trans hb0
  have hz : w.heap.size < w1.heap.size := by have := hB1.size; rw [World.size_alloc] at this; omega
  have x0 : w1.cell? ⟨w.heap.size, 0, none⟩ = some (.int .i64 0) := (obj_cell hb1 0).trans rfl
  have x1 : w1.cell? ⟨w.heap.size, 1, none⟩ = some (.int .i64 0) := (obj_cell hb1 1).trans rfl
  have x2 : w1.cell? ⟨w.heap.size, 2, none⟩ = some (.int .i64 0) := (obj_cell hb1 2).trans rfl
  have x3 : w1.cell? ⟨w.heap.size, 3, none⟩ = some (.int .i64 0) := (obj_cell hb1 3).trans rfl
  have x4 : w1.cell? ⟨w.heap.size, 4, none⟩ = some (.int .i64 0) := (obj_cell hb1 4).trans rfl
  have y0 : w1.frozen? ⟨w.heap.size, 0, none⟩ = false := obj_frozen hb1 0
  have y1 : w1.frozen? ⟨w.heap.size, 1, none⟩ = false := obj_frozen hb1 1
  have y2 : w1.frozen? ⟨w.heap.size, 2, none⟩ = false := obj_frozen hb1 2
  have y3 : w1.frozen? ⟨w.heap.size, 3, none⟩ = false := obj_frozen hb1 3
  have y4 : w1.frozen? ⟨w.heap.size, 4, none⟩ = false := obj_frozen hb1 4
  have HZ := Lib.hid hb1
  clear hb1 hb0 hB0
  go_wp2_with (first
    | (go_at_call 73; refine (HH.out _).mono ?_; rintro e w' ⟨rfl, rfl⟩)
    | (go_at_call 74; (with_reducible refine (part_7_5 x hx _).mono ?_); rintro e w' ⟨rfl, rfl⟩)
    | (go_at_call 74; (with_reducible refine (part_15_5 x hx _).mono ?_); rintro e w' ⟨rfl, rfl⟩)
    | (go_at_call 74; (with_reducible refine (part_20_5 x hx _).mono ?_); rintro e w' ⟨rfl, rfl⟩))
  refine gr_ret _ _ w.heap.size HZ.out _ _ _ _ _ _ _ _ (by rfl) ⟨by rw [HV.out] <;> (rfl), below5 hBw _ (Nat.le_refl _) _ _ _ _ _ _ _⟩
set_option maxRecDepth 20000 in
set_option maxHeartbeats 4000000 in
theorem guess_73 (op x : Nat) (_hop : op < 66) (hx : x < 4294967296) (hl : (formR op).1 = 73) (w : World) : Calls Tryz.prog 53 #[.int .i64 (op : Int), .int .u32 (x : Int)] w (GuessTo op x w) := by
  have HV := Lib.hid (show (gIns op x).cells = #[.int .i64 (op : Int), .int .i64 ((x / 128 % 32 : Nat) : Int), .int .i64 ((x / 32768 % 32 : Nat) : Int), .int .i64 0, .int .i64 (sgn (x / 1048576) 12)] by unfold gIns; rw [hl]; simp [Ins.cells, hasD1, has11, has21, gImm])
  have HF := Lib.hid (fun W => FormOf_any (op : Int) W)
  have HH := Lib.hid (fun W => r1Has_any 73 (by decide) W)
  unfold FormTo formV formZ at HF
  unfold HasTo at HH
  rw [Int.toNat_natCast] at HF
  generalize formR op = F at *
  obtain ⟨l, c, f3, f7⟩ := F
  obtain rfl : l = 73 := hl
  have hb0 : (w.alloc (.cells z5 78)).heap[w.heap.size]? = some (.cells z5 78 (0, 0)) := heap_alloc_new w _
  go_enter Tryz.func53, Tryz.ntmps53
  go_wp2_with fail
  refine Calls.mono (HF.out _) ?_
  rintro e w1 ⟨rfl, hB1⟩
  have hB0 : Below w.heap.size w (w.alloc (.cells z5 78)) := form1 w _
  have hBw := hB0.trans (hB1.mono hB0.size)
  have hb1 : w1.heap[w.heap.size]? = some (.cells z5 78 (0, 0)) := (hB1.block _ (by rw [World.size_alloc]; omega)).trans hb0
  have hz : w.heap.size < w1.heap.size := by have := hB1.size; rw [World.size_alloc] at this; omega
  have x0 : w1.cell? ⟨w.heap.size, 0, none⟩ = some (.int .i64 0) := (obj_cell hb1 0).trans rfl
  have x1 : w1.cell? ⟨w.heap.size, 1, none⟩ = some (.int .i64 0) := (obj_cell hb1 1).trans rfl
  have x2 : w1.cell? ⟨w.heap.size, 2, none⟩ = some (.int .i64 0) := (obj_cell hb1 2).trans rfl
  have x3 : w1.cell? ⟨w.heap.size, 3, none⟩ = some (.int .i64 0) := (obj_cell hb1 3).trans rfl
  have x4 : w1.cell? ⟨w.heap.size, 4, none⟩ = some (.int .i64 0) := (obj_cell hb1 4).trans rfl
  have y0 : w1.frozen? ⟨w.heap.size, 0, none⟩ = false := obj_frozen hb1 0
  have y1 : w1.frozen? ⟨w.heap.size, 1, none⟩ = false := obj_frozen hb1 1
  have y2 : w1.frozen? ⟨w.heap.size, 2, none⟩ = false := obj_frozen hb1 2
  have y3 : w1.frozen? ⟨w.heap.size, 3, none⟩ = false := obj_frozen hb1 3
  have y4 : w1.frozen? ⟨w.heap.size, 4, none⟩ = false := obj_frozen hb1 4
  have HZ := Lib.hid hb1
  clear hb1 hb0 hB0
  go_wp2_with (first
    | (go_at_call 73; refine (HH.out _).mono ?_; rintro e w' ⟨rfl, rfl⟩)
    | (go_at_call 74; (with_reducible refine (part_7_5 x hx _).mono ?_); rintro e w' ⟨rfl, rfl⟩)
    | (go_at_call 74; (with_reducible refine (part_15_5 x hx _).mono ?_); rintro e w' ⟨rfl, rfl⟩)
    | (go_at_call 74; (with_reducible refine (part_20_12 x hx _).mono ?_); rintro e w' ⟨rfl, rfl⟩)
    | (go_at_call 75; (with_reducible refine (r1signed_12 (x / 1048576 % 4096) (by omega) _ (by first | rfl | omega) _).mono ?_); rintro e w' ⟨rfl, rfl⟩))
  refine gr_ret _ _ w.heap.size HZ.out _ _ _ _ _ _ _ _ (by rfl) ⟨by rw [HV.out] <;> (have := sgn_mod (x / 1048576) 12; simp at this; simp [this]), below5 hBw _ (Nat.le_refl _) _ _ _ _ _ _ _⟩
set_option maxRecDepth 20000 in
set_option maxHeartbeats 4000000 in
theorem guess_85 (op x : Nat) (_hop : op < 66) (hx : x < 4294967296) (hl : (formR op).1 = 85) (w : World) : Calls Tryz.prog 53 #[.int .i64 (op : Int), .int .u32 (x : Int)] w (GuessTo op x w) := by
  have HV := Lib.hid (show (gIns op x).cells = #[.int .i64 (op : Int), .int .i64 ((x / 128 % 32 : Nat) : Int), .int .i64 0, .int .i64 0, .int .i64 (sgn (x / 4096) 20)] by unfold gIns; rw [hl]; simp [Ins.cells, hasD1, has11, has21, gImm])
  have HF := Lib.hid (fun W => FormOf_any (op : Int) W)
  have HH := Lib.hid (fun W => r1Has_any 85 (by decide) W)
  unfold FormTo formV formZ at HF
  unfold HasTo at HH
  rw [Int.toNat_natCast] at HF
  generalize formR op = F at *
  obtain ⟨l, c, f3, f7⟩ := F
  obtain rfl : l = 85 := hl
  have hb0 : (w.alloc (.cells z5 78)).heap[w.heap.size]? = some (.cells z5 78 (0, 0)) := heap_alloc_new w _
  go_enter Tryz.func53, Tryz.ntmps53
  go_wp2_with fail
  refine Calls.mono (HF.out _) ?_
  rintro e w1 ⟨rfl, hB1⟩
  have hB0 : Below w.heap.size w (w.alloc (.cells z5 78)) := form1 w _
  have hBw := hB0.trans (hB1.mono hB0.size)
  have hb1 : w1.heap[w.heap.size]? = some (.cells z5 78 (0, 0)) := (hB1.block _ (by rw [World.size_alloc]; omega)).trans hb0
  have hz : w.heap.size < w1.heap.size := by have := hB1.size; rw [World.size_alloc] at this; omega
  have x0 : w1.cell? ⟨w.heap.size, 0, none⟩ = some (.int .i64 0) := (obj_cell hb1 0).trans rfl
  have x1 : w1.cell? ⟨w.heap.size, 1, none⟩ = some (.int .i64 0) := (obj_cell hb1 1).trans rfl
  have x2 : w1.cell? ⟨w.heap.size, 2, none⟩ = some (.int .i64 0) := (obj_cell hb1 2).trans rfl
  have x3 : w1.cell? ⟨w.heap.size, 3, none⟩ = some (.int .i64 0) := (obj_cell hb1 3).trans rfl
  have x4 : w1.cell? ⟨w.heap.size, 4, none⟩ = some (.int .i64 0) := (obj_cell hb1 4).trans rfl
  have y0 : w1.frozen? ⟨w.heap.size, 0, none⟩ = false := obj_frozen hb1 0
  have y1 : w1.frozen? ⟨w.heap.size, 1, none⟩ = false := obj_frozen hb1 1
  have y2 : w1.frozen? ⟨w.heap.size, 2, none⟩ = false := obj_frozen hb1 2
  have y3 : w1.frozen? ⟨w.heap.size, 3, none⟩ = false := obj_frozen hb1 3
  have y4 : w1.frozen? ⟨w.heap.size, 4, none⟩ = false := obj_frozen hb1 4
  have HZ := Lib.hid hb1
  clear hb1 hb0 hB0
  go_wp2_with (first
    | (go_at_call 73; refine (HH.out _).mono ?_; rintro e w' ⟨rfl, rfl⟩)
    | (go_at_call 74; (with_reducible refine (part_7_5 x hx _).mono ?_); rintro e w' ⟨rfl, rfl⟩)
    | (go_at_call 74; (with_reducible refine (part_12_20 x hx _).mono ?_); rintro e w' ⟨rfl, rfl⟩)
    | (go_at_call 75; (with_reducible refine (r1signed_20 (x / 4096 % 1048576) (by omega) _ (by first | rfl | omega) _).mono ?_); rintro e w' ⟨rfl, rfl⟩))
  refine gr_ret _ _ w.heap.size HZ.out _ _ _ _ _ _ _ _ (by rfl) ⟨by rw [HV.out] <;> (have := sgn_mod (x / 4096) 20; simp at this; simp [this]), below5 hBw _ (Nat.le_refl _) _ _ _ _ _ _ _⟩
set_option maxRecDepth 20000 in
set_option maxHeartbeats 4000000 in
theorem guess_83 (op x : Nat) (_hop : op < 66) (hx : x < 4294967296) (hl : (formR op).1 = 83) (w : World) : Calls Tryz.prog 53 #[.int .i64 (op : Int), .int .u32 (x : Int)] w (GuessTo op x w) := by
  have HV := Lib.hid (show (gIns op x).cells = #[.int .i64 (op : Int), .int .i64 0, .int .i64 ((x / 32768 % 32 : Nat) : Int), .int .i64 ((x / 1048576 % 32 : Nat) : Int), .int .i64 (sgn (x / 128 % 32 + x / 33554432 * 32) 12)] by unfold gIns; rw [hl]; simp [Ins.cells, hasD1, has11, has21, gImm])
  have HF := Lib.hid (fun W => FormOf_any (op : Int) W)
  have HH := Lib.hid (fun W => r1Has_any 83 (by decide) W)
  unfold FormTo formV formZ at HF
  unfold HasTo at HH
  rw [Int.toNat_natCast] at HF
  generalize formR op = F at *
  obtain ⟨l, c, f3, f7⟩ := F
  obtain rfl : l = 83 := hl
  have hb0 : (w.alloc (.cells z5 78)).heap[w.heap.size]? = some (.cells z5 78 (0, 0)) := heap_alloc_new w _
  have HS := Lib.hid (gz_S x hx)
  go_enter Tryz.func53, Tryz.ntmps53
  go_wp2_with fail
  refine Calls.mono (HF.out _) ?_
  rintro e w1 ⟨rfl, hB1⟩
  have hB0 : Below w.heap.size w (w.alloc (.cells z5 78)) := form1 w _
  have hBw := hB0.trans (hB1.mono hB0.size)
  have hb1 : w1.heap[w.heap.size]? = some (.cells z5 78 (0, 0)) := (hB1.block _ (by rw [World.size_alloc]; omega)).trans hb0
  have hz : w.heap.size < w1.heap.size := by have := hB1.size; rw [World.size_alloc] at this; omega
  have x0 : w1.cell? ⟨w.heap.size, 0, none⟩ = some (.int .i64 0) := (obj_cell hb1 0).trans rfl
  have x1 : w1.cell? ⟨w.heap.size, 1, none⟩ = some (.int .i64 0) := (obj_cell hb1 1).trans rfl
  have x2 : w1.cell? ⟨w.heap.size, 2, none⟩ = some (.int .i64 0) := (obj_cell hb1 2).trans rfl
  have x3 : w1.cell? ⟨w.heap.size, 3, none⟩ = some (.int .i64 0) := (obj_cell hb1 3).trans rfl
  have x4 : w1.cell? ⟨w.heap.size, 4, none⟩ = some (.int .i64 0) := (obj_cell hb1 4).trans rfl
  have y0 : w1.frozen? ⟨w.heap.size, 0, none⟩ = false := obj_frozen hb1 0
  have y1 : w1.frozen? ⟨w.heap.size, 1, none⟩ = false := obj_frozen hb1 1
  have y2 : w1.frozen? ⟨w.heap.size, 2, none⟩ = false := obj_frozen hb1 2
  have y3 : w1.frozen? ⟨w.heap.size, 3, none⟩ = false := obj_frozen hb1 3
  have y4 : w1.frozen? ⟨w.heap.size, 4, none⟩ = false := obj_frozen hb1 4
  have HZ := Lib.hid hb1
  clear hb1 hb0 hB0
  go_wp2_with (first
    | (go_at_call 73; refine (HH.out _).mono ?_; rintro e w' ⟨rfl, rfl⟩)
    | (go_at_call 74; (with_reducible refine (part_15_5 x hx _).mono ?_); rintro e w' ⟨rfl, rfl⟩)
    | (go_at_call 74; (with_reducible refine (part_20_5 x hx _).mono ?_); rintro e w' ⟨rfl, rfl⟩)
    | (go_at_call 74; (with_reducible refine (part_7_5 x hx _).mono ?_); rintro e w' ⟨rfl, rfl⟩)
    | (go_at_call 74; (with_reducible refine (part_25_7 x hx _).mono ?_); rintro e w' ⟨rfl, rfl⟩)
    | (go_at_call 75; (with_reducible refine (r1signed_12 (x / 128 % 32 + x / 33554432 * 32) (by omega) _ (HS.out) _).mono ?_); rintro e w' ⟨rfl, rfl⟩))
  refine gr_ret _ _ w.heap.size HZ.out _ _ _ _ _ _ _ _ (by rfl) ⟨by rw [HV.out] <;> (rfl), below5 hBw _ (Nat.le_refl _) _ _ _ _ _ _ _⟩
set_option maxRecDepth 20000 in
set_option maxHeartbeats 4000000 in
theorem guess_66 (op x : Nat) (_hop : op < 66) (hx : x < 4294967296) (hl : (formR op).1 = 66) (w : World) : Calls Tryz.prog 53 #[.int .i64 (op : Int), .int .u32 (x : Int)] w (GuessTo op x w) := by
  have HV := Lib.hid (show (gIns op x).cells = #[.int .i64 (op : Int), .int .i64 0, .int .i64 ((x / 32768 % 32 : Nat) : Int), .int .i64 ((x / 1048576 % 32 : Nat) : Int), .int .i64 (sgn (x / 256 % 16 * 2 + x / 33554432 % 64 * 32 + x / 128 % 2 * 2048 + x / 2147483648 * 4096) 13)] by unfold gIns; rw [hl]; simp [Ins.cells, hasD1, has11, has21, gImm])
  have HF := Lib.hid (fun W => FormOf_any (op : Int) W)
  have HH := Lib.hid (fun W => r1Has_any 66 (by decide) W)
  unfold FormTo formV formZ at HF
  unfold HasTo at HH
  rw [Int.toNat_natCast] at HF
  generalize formR op = F at *
  obtain ⟨l, c, f3, f7⟩ := F
  obtain rfl : l = 66 := hl
  have hb0 : (w.alloc (.cells z5 78)).heap[w.heap.size]? = some (.cells z5 78 (0, 0)) := heap_alloc_new w _
  have HS := Lib.hid (gz_B x hx)
  go_enter Tryz.func53, Tryz.ntmps53
  go_wp2_with fail
  refine Calls.mono (HF.out _) ?_
  rintro e w1 ⟨rfl, hB1⟩
  have hB0 : Below w.heap.size w (w.alloc (.cells z5 78)) := form1 w _
  have hBw := hB0.trans (hB1.mono hB0.size)
  have hb1 : w1.heap[w.heap.size]? = some (.cells z5 78 (0, 0)) := (hB1.block _ (by rw [World.size_alloc]; omega)).trans hb0
  have hz : w.heap.size < w1.heap.size := by have := hB1.size; rw [World.size_alloc] at this; omega
  have x0 : w1.cell? ⟨w.heap.size, 0, none⟩ = some (.int .i64 0) := (obj_cell hb1 0).trans rfl
  have x1 : w1.cell? ⟨w.heap.size, 1, none⟩ = some (.int .i64 0) := (obj_cell hb1 1).trans rfl
  have x2 : w1.cell? ⟨w.heap.size, 2, none⟩ = some (.int .i64 0) := (obj_cell hb1 2).trans rfl
  have x3 : w1.cell? ⟨w.heap.size, 3, none⟩ = some (.int .i64 0) := (obj_cell hb1 3).trans rfl
  have x4 : w1.cell? ⟨w.heap.size, 4, none⟩ = some (.int .i64 0) := (obj_cell hb1 4).trans rfl
  have y0 : w1.frozen? ⟨w.heap.size, 0, none⟩ = false := obj_frozen hb1 0
  have y1 : w1.frozen? ⟨w.heap.size, 1, none⟩ = false := obj_frozen hb1 1
  have y2 : w1.frozen? ⟨w.heap.size, 2, none⟩ = false := obj_frozen hb1 2
  have y3 : w1.frozen? ⟨w.heap.size, 3, none⟩ = false := obj_frozen hb1 3
  have y4 : w1.frozen? ⟨w.heap.size, 4, none⟩ = false := obj_frozen hb1 4
  have HZ := Lib.hid hb1
  clear hb1 hb0 hB0
  go_wp2_with (first
    | (go_at_call 73; refine (HH.out _).mono ?_; rintro e w' ⟨rfl, rfl⟩)
    | (go_at_call 74; (with_reducible refine (part_15_5 x hx _).mono ?_); rintro e w' ⟨rfl, rfl⟩)
    | (go_at_call 74; (with_reducible refine (part_20_5 x hx _).mono ?_); rintro e w' ⟨rfl, rfl⟩)
    | (go_at_call 74; (with_reducible refine (part_8_4 x hx _).mono ?_); rintro e w' ⟨rfl, rfl⟩)
    | (go_at_call 74; (with_reducible refine (part_25_6 x hx _).mono ?_); rintro e w' ⟨rfl, rfl⟩)
    | (go_at_call 74; (with_reducible refine (part_7_1 x hx _).mono ?_); rintro e w' ⟨rfl, rfl⟩)
    | (go_at_call 74; (with_reducible refine (part_31_1 x hx _).mono ?_); rintro e w' ⟨rfl, rfl⟩)
    | (go_at_call 75; (with_reducible refine (r1signed_13 (x / 256 % 16 * 2 + x / 33554432 % 64 * 32 + x / 128 % 2 * 2048 + x / 2147483648 * 4096) (by omega) _ (HS.out) _).mono ?_); rintro e w' ⟨rfl, rfl⟩))
  refine gr_ret _ _ w.heap.size HZ.out _ _ _ _ _ _ _ _ (by rfl) ⟨by rw [HV.out] <;> (rfl), below5 hBw _ (Nat.le_refl _) _ _ _ _ _ _ _⟩
set_option maxRecDepth 20000 in
set_option maxHeartbeats 4000000 in
theorem guess_74 (op x : Nat) (_hop : op < 66) (hx : x < 4294967296) (hl : (formR op).1 = 74) (w : World) : Calls Tryz.prog 53 #[.int .i64 (op : Int), .int .u32 (x : Int)] w (GuessTo op x w) := by
  have HV := Lib.hid (show (gIns op x).cells = #[.int .i64 (op : Int), .int .i64 ((x / 128 % 32 : Nat) : Int), .int .i64 0, .int .i64 0, .int .i64 (sgn (x / 2097152 % 1024 * 2 + x / 1048576 % 2 * 2048 + x / 4096 % 256 * 4096 + x / 2147483648 * 1048576) 21)] by unfold gIns; rw [hl]; simp [Ins.cells, hasD1, has11, has21, gImm])
  have HF := Lib.hid (fun W => FormOf_any (op : Int) W)
  have HH := Lib.hid (fun W => r1Has_any 74 (by decide) W)
  unfold FormTo formV formZ at HF
  unfold HasTo at HH
  rw [Int.toNat_natCast] at HF
  generalize formR op = F at *
  obtain ⟨l, c, f3, f7⟩ := F
  obtain rfl : l = 74 := hl
  have hb0 : (w.alloc (.cells z5 78)).heap[w.heap.size]? = some (.cells z5 78 (0, 0)) := heap_alloc_new w _
  have HS := Lib.hid (gz_J x hx)
  go_enter Tryz.func53, Tryz.ntmps53
  go_wp2_with fail
  refine Calls.mono (HF.out _) ?_
  rintro e w1 ⟨rfl, hB1⟩
  have hB0 : Below w.heap.size w (w.alloc (.cells z5 78)) := form1 w _
  have hBw := hB0.trans (hB1.mono hB0.size)
  have hb1 : w1.heap[w.heap.size]? = some (.cells z5 78 (0, 0)) := (hB1.block _ (by rw [World.size_alloc]; omega)).trans hb0
  have hz : w.heap.size < w1.heap.size := by have := hB1.size; rw [World.size_alloc] at this; omega
  have x0 : w1.cell? ⟨w.heap.size, 0, none⟩ = some (.int .i64 0) := (obj_cell hb1 0).trans rfl
  have x1 : w1.cell? ⟨w.heap.size, 1, none⟩ = some (.int .i64 0) := (obj_cell hb1 1).trans rfl
  have x2 : w1.cell? ⟨w.heap.size, 2, none⟩ = some (.int .i64 0) := (obj_cell hb1 2).trans rfl
  have x3 : w1.cell? ⟨w.heap.size, 3, none⟩ = some (.int .i64 0) := (obj_cell hb1 3).trans rfl
  have x4 : w1.cell? ⟨w.heap.size, 4, none⟩ = some (.int .i64 0) := (obj_cell hb1 4).trans rfl
  have y0 : w1.frozen? ⟨w.heap.size, 0, none⟩ = false := obj_frozen hb1 0
  have y1 : w1.frozen? ⟨w.heap.size, 1, none⟩ = false := obj_frozen hb1 1
  have y2 : w1.frozen? ⟨w.heap.size, 2, none⟩ = false := obj_frozen hb1 2
  have y3 : w1.frozen? ⟨w.heap.size, 3, none⟩ = false := obj_frozen hb1 3
  have y4 : w1.frozen? ⟨w.heap.size, 4, none⟩ = false := obj_frozen hb1 4
  have HZ := Lib.hid hb1
  clear hb1 hb0 hB0
  go_wp2_with (first
    | (go_at_call 73; refine (HH.out _).mono ?_; rintro e w' ⟨rfl, rfl⟩)
    | (go_at_call 74; (with_reducible refine (part_7_5 x hx _).mono ?_); rintro e w' ⟨rfl, rfl⟩)
    | (go_at_call 74; (with_reducible refine (part_21_10 x hx _).mono ?_); rintro e w' ⟨rfl, rfl⟩)
    | (go_at_call 74; (with_reducible refine (part_20_1 x hx _).mono ?_); rintro e w' ⟨rfl, rfl⟩)
    | (go_at_call 74; (with_reducible refine (part_12_8 x hx _).mono ?_); rintro e w' ⟨rfl, rfl⟩)
    | (go_at_call 74; (with_reducible refine (part_31_1 x hx _).mono ?_); rintro e w' ⟨rfl, rfl⟩)
    | (go_at_call 75; (with_reducible refine (r1signed_21 (x / 2097152 % 1024 * 2 + x / 1048576 % 2 * 2048 + x / 4096 % 256 * 4096 + x / 2147483648 * 1048576) (by omega) _ (HS.out) _).mono ?_); rintro e w' ⟨rfl, rfl⟩))
  refine gr_ret _ _ w.heap.size HZ.out _ _ _ _ _ _ _ _ (by rfl) ⟨by rw [HV.out] <;> (rfl), below5 hBw _ (Nat.le_refl _) _ _ _ _ _ _ _⟩
theorem guess_any (op x : Nat) (hop : op < 66) (hx : x < 4294967296) (w : World) : Calls Tryz.prog 53 #[.int .i64 (op : Int), .int .u32 (x : Int)] w (GuessTo op x w) := by
  have hl : (formR op).1 ∈ lettersL := formR_letter _
  simp only [lettersL, List.mem_cons, List.not_mem_nil, or_false] at hl
  rcases hl with h | h | h | h | h | h | h | h | h | h
  · exact guess_0 op x hop hx h w
  · exact guess_85 op x hop hx h w
  · exact guess_74 op x hop hx h w
  · exact guess_73 op x hop hx h w
  · exact guess_66 op x hop hx h w
  · exact guess_83 op x hop hx h w
  · exact guess_72 op x hop hx h w
  · exact guess_104 op x hop hx h w
  · exact guess_82 op x hop hx h w
  · exact guess_78 op x hop hx h w
end Go.Proofs

/- patinaref01.bits, Word: an instruction's word. -/
namespace Go.Pat
open Go Go.RowKit
theorem bitI_lt (n : Int) (f c : Nat) : bitI n f c < 2 ^ c := by
  unfold bitI
  have h : (0 : Int) < 2 ^ c := by rw [pow_int]; exact Int.ofNat_lt.2 (Nat.pow_pos (by decide))
  have h1 := Int.emod_lt_of_pos (n / 2 ^ f) h
  have h0 := Int.emod_nonneg (n / 2 ^ f) (Int.ne_of_gt h)
  exact (Int.toNat_lt h0).2 (by rw [← pow_int]; exact h1)
theorem bitI_mask (n : Int) (f c : Nat) (hc : c < 32) : bits .and .u32 (n / 2 ^ f % 4294967296) (((2 : Int) ^ c - 1) % 4294967296) = ((bitI n f c : Nat) : Int) := by
  have h0 : 0 ≤ n / 2 ^ f % 4294967296 := Int.emod_nonneg _ (by decide)
  have h1 : n / 2 ^ f % 4294967296 < 4294967296 := Int.emod_lt_of_pos _ (by decide)
  have hd : (2 : Int) ^ c ∣ 4294967296 := ⟨2 ^ (32 - c), by rw [← Int.pow_add, show c + (32 - c) = 32 by omega]; rfl⟩
  have e : (n / 2 ^ f % 4294967296).toNat % 2 ^ c = bitI n f c := by
    unfold bitI
    rw [← Int.emod_emod_of_dvd (n / 2 ^ f) hd, pow_int c]
    generalize n / 2 ^ f % 4294967296 = m at *
    obtain ⟨k, rfl⟩ : ∃ k : Nat, m = k := ⟨m.toNat, by omega⟩
    rw [← Int.natCast_emod]; rfl
  rw [mask_int c hc, show n / 2 ^ f % 4294967296 = ((n / 2 ^ f % 4294967296).toNat : Int) by omega, bits_mask _ c (by omega) hc, e]
theorem orN (a b : Nat) (ha : a < 4294967296) (hb : b < 4294967296) (y z : Int) (hy : y = (a : Int)) (hz : z = (b : Int)) : bits .or .u32 y z = ((a ||| b : Nat) : Int) := by
  rw [hy, hz, bits_or_u32 _ _ ha hb]
theorem headN_lt (c f3 d a b : Nat) (hc : c < 4294967296) (h3 : f3 < 8) (hd : d < 32) (ha : a < 32) (hb : b < 32) : headN c f3 d a b < 4294967296 :=
  or_lt32 (or_lt32 (or_lt32 (or_lt32 hc (by omega)) (by omega)) (by omega)) (by omega)
theorem headI (c f3 d a b : Nat) (hc : c < 4294967296) (h3 : f3 < 8) (hd : d < 32) (ha : a < 32) (hb : b < 32) :
    bits .or .u32 (bits .or .u32 (bits .or .u32 (bits .or .u32 (c : Int) ((f3 : Int) * 4096)) ((d : Int) * 128)) ((a : Int) * 32768)) ((b : Int) * 1048576) = ((headN c f3 d a b : Nat) : Int) := by
  unfold headN
  rw [orN c (f3 * 4096) hc (by omega) _ _ rfl (by omega), orN _ (d * 128) (or_lt32 hc (by omega)) (by omega) _ _ rfl (by omega), orN _ (a * 32768) (or_lt32 (or_lt32 hc (by omega)) (by omega)) (by omega) _ _ rfl (by omega),
    orN _ (b * 1048576) (or_lt32 (or_lt32 (or_lt32 hc (by omega)) (by omega)) (by omega)) (by omega) _ _ rfl (by omega)]
theorem form_bounds (op : Nat) (hop : op < 66) : (formR op).2.1 < 4294967296 ∧ (formR op).2.2.1 < 8 ∧ (formR op).2.2.2 < 64 :=
  (show ∀ k, k < 66 → (formR k).2.1 < 4294967296 ∧ (formR k).2.2.1 < 8 ∧ (formR k).2.2.2 < 64 by decide) op hop
end Go.Pat
namespace Go.Proofs
open Go Go.RowKit Go.Pat
theorem rbits_gen (n : Int) (f c : Nat) (hf : f < 64) (hc : c < 32) (w : World) :
    Calls Tryz.prog 78 #[.int .i64 n, .int .u32 (f : Int), .int .u32 (c : Int)] w fun e w' => e = .returned (.int .u32 ((bitI n f c : Nat) : Int)) ∧ w' = w := by
  have s1 : ∀ W : World, (Op.shift .shr .i64 n .u32 (f : Int)).run Tryz.prog W = .ok (.int .i64 (n / 2 ^ f)) W := fun W => by rw [run_shr .i64 .u32 n f f rfl hf W, Int.fdiv_eq_ediv_of_nonneg _ (by rw [pow_int]; exact Int.natCast_nonneg _)]
  have s2 : ∀ W : World, (Op.shift .shl .u32 1 .u32 (c : Int)).run Tryz.prog W = .ok (.int .u32 ((2 ^ c : Nat) : Int)) W := fun W => by
    rw [run_shl .u32 .u32 1 c c rfl hc W, Int.one_mul, show ((2 : Int) ^ c) = ((2 ^ c : Nat) : Int) by rw [Int.natCast_pow]; rfl, u32_nat _ (Nat.pow_lt_pow_right (by decide) hc)]
  go_enter Tryz.func78, Tryz.ntmps78
  go_wp2
  go_ret
  refine ⟨congrArg (fun z => Ending.returned (Value.int IntKind.u32 z)) ?_, rfl⟩
  first | exact bitI_mask n f c hc | (have h := bitI_mask n f c hc; simp at h; simpa using h)
theorem rbits_0_12 (n : Int) (w : World) : Calls Tryz.prog 78 #[.int .i64 n, .int .u32 0, .int .u32 12] w fun e w' => e = .returned (.int .u32 ((bitI n 0 12 : Nat) : Int)) ∧ w' = w := rbits_gen n 0 12 (by decide) (by decide) w
theorem rbits_0_5 (n : Int) (w : World) : Calls Tryz.prog 78 #[.int .i64 n, .int .u32 0, .int .u32 5] w fun e w' => e = .returned (.int .u32 ((bitI n 0 5 : Nat) : Int)) ∧ w' = w := rbits_gen n 0 5 (by decide) (by decide) w
theorem rbits_5_7 (n : Int) (w : World) : Calls Tryz.prog 78 #[.int .i64 n, .int .u32 5, .int .u32 7] w fun e w' => e = .returned (.int .u32 ((bitI n 5 7 : Nat) : Int)) ∧ w' = w := rbits_gen n 5 7 (by decide) (by decide) w
theorem rbits_11_1 (n : Int) (w : World) : Calls Tryz.prog 78 #[.int .i64 n, .int .u32 11, .int .u32 1] w fun e w' => e = .returned (.int .u32 ((bitI n 11 1 : Nat) : Int)) ∧ w' = w := rbits_gen n 11 1 (by decide) (by decide) w
theorem rbits_1_4 (n : Int) (w : World) : Calls Tryz.prog 78 #[.int .i64 n, .int .u32 1, .int .u32 4] w fun e w' => e = .returned (.int .u32 ((bitI n 1 4 : Nat) : Int)) ∧ w' = w := rbits_gen n 1 4 (by decide) (by decide) w
theorem rbits_5_6 (n : Int) (w : World) : Calls Tryz.prog 78 #[.int .i64 n, .int .u32 5, .int .u32 6] w fun e w' => e = .returned (.int .u32 ((bitI n 5 6 : Nat) : Int)) ∧ w' = w := rbits_gen n 5 6 (by decide) (by decide) w
theorem rbits_12_1 (n : Int) (w : World) : Calls Tryz.prog 78 #[.int .i64 n, .int .u32 12, .int .u32 1] w fun e w' => e = .returned (.int .u32 ((bitI n 12 1 : Nat) : Int)) ∧ w' = w := rbits_gen n 12 1 (by decide) (by decide) w
theorem rbits_0_20 (n : Int) (w : World) : Calls Tryz.prog 78 #[.int .i64 n, .int .u32 0, .int .u32 20] w fun e w' => e = .returned (.int .u32 ((bitI n 0 20 : Nat) : Int)) ∧ w' = w := rbits_gen n 0 20 (by decide) (by decide) w
theorem rbits_12_8 (n : Int) (w : World) : Calls Tryz.prog 78 #[.int .i64 n, .int .u32 12, .int .u32 8] w fun e w' => e = .returned (.int .u32 ((bitI n 12 8 : Nat) : Int)) ∧ w' = w := rbits_gen n 12 8 (by decide) (by decide) w
theorem rbits_1_10 (n : Int) (w : World) : Calls Tryz.prog 78 #[.int .i64 n, .int .u32 1, .int .u32 10] w fun e w' => e = .returned (.int .u32 ((bitI n 1 10 : Nat) : Int)) ∧ w' = w := rbits_gen n 1 10 (by decide) (by decide) w
theorem rbits_20_1 (n : Int) (w : World) : Calls Tryz.prog 78 #[.int .i64 n, .int .u32 20, .int .u32 1] w fun e w' => e = .returned (.int .u32 ((bitI n 20 1 : Nat) : Int)) ∧ w' = w := rbits_gen n 20 1 (by decide) (by decide) w
def WordTo (l c f3 f7 d a b : Nat) (n : Int) (w : World) (e : Ending) (w' : World) : Prop := e = .returned (.int .u32 ((rwordN l c f3 f7 d a b n : Nat) : Int)) ∧ Below w.heap.size w w'
set_option maxRecDepth 20000 in
set_option maxHeartbeats 4000000 in
theorem rword_82 (op d a b : Nat) (n : Int) (hop : op < 66) (hd : d < 32) (ha : a < 32) (hb : b < 32) (l c f3 f7 : Nat) (hF0 : formR op = (l, c, f3, f7)) (hl : l = 82) (w : World) :
    Calls Tryz.prog 55 #[.agg #[.int .i64 (op : Int), .int .i64 (d : Int), .int .i64 (a : Int), .int .i64 (b : Int), .int .i64 n]] w (WordTo l c f3 f7 d a b n w) := by
  have hbd := form_bounds op hop
  have HF := Lib.hid (fun W => FormOf_any (op : Int) W)
  unfold FormTo formV formZ at HF
  rw [Int.toNat_natCast, hF0] at HF
  rw [hF0] at hbd
  obtain ⟨hc, h3, h7⟩ := hbd
  simp only at hc h3 h7
  subst hl
  clear hF0
  have HH := Lib.hid (headI c f3 d a b hc h3 hd ha hb)
  have hHl := headN_lt c f3 d a b hc h3 hd ha hb
  obtain ⟨H, hH⟩ : ∃ H, H = headN c f3 d a b := ⟨_, rfl⟩
  rw [← hH] at HH hHl
  have HHe := Lib.hid hH
  clear hH
  go_enter Tryz.func55, Tryz.ntmps55
  go_wp2_with fail
  refine Calls.mono (HF.out _) ?_
  rintro e w1 ⟨rfl, hB1⟩
  have hB0 : Below w.heap.size w (w.alloc (.cells #[.int .i64 op, .int .i64 d, .int .i64 a, .int .i64 b, .int .i64 n] 78)) := form1 w _
  have hBw := hB0.trans (hB1.mono hB0.size)
  have hb1 : w1.heap[w.heap.size]? = some (.cells #[.int .i64 op, .int .i64 d, .int .i64 a, .int .i64 b, .int .i64 n] 78 (0, 0)) := (hB1.block _ (by rw [World.size_alloc]; omega)).trans (heap_alloc_new w _)
  have hz : w.heap.size < w1.heap.size := by have := hB1.size; rw [World.size_alloc] at this; omega
  have x1 : w1.cell? ⟨w.heap.size, 1, none⟩ = some (.int .i64 d) := (obj_cell hb1 1).trans rfl
  have x2 : w1.cell? ⟨w.heap.size, 2, none⟩ = some (.int .i64 a) := (obj_cell hb1 2).trans rfl
  have x3 : w1.cell? ⟨w.heap.size, 3, none⟩ = some (.int .i64 b) := (obj_cell hb1 3).trans rfl
  have x4 : w1.cell? ⟨w.heap.size, 4, none⟩ = some (.int .i64 n) := (obj_cell hb1 4).trans rfl
  clear hb1 hB0
  go_wp2
  go_ret
  refine ⟨congrArg (fun z => Ending.returned (Value.int IntKind.u32 z)) ?_, ?_⟩
  · rw [HH.out]
    unfold rwordN
    rw [← HHe.out]
    simp only [Nat.reduceEqDiff, if_true, if_false, or_self]
    rw [orN _ (f7 * 33554432) hHl (by omega) _ _ rfl (by omega)]
  · first | exact hBw.alloc hBw.size _ | exact bdrewN (hBw.alloc hBw.size _) _
set_option maxRecDepth 20000 in
set_option maxHeartbeats 4000000 in
theorem rword_73 (op d a b : Nat) (n : Int) (hop : op < 66) (hd : d < 32) (ha : a < 32) (hb : b < 32) (l c f3 f7 : Nat) (hF0 : formR op = (l, c, f3, f7)) (hl : l = 73) (w : World) :
    Calls Tryz.prog 55 #[.agg #[.int .i64 (op : Int), .int .i64 (d : Int), .int .i64 (a : Int), .int .i64 (b : Int), .int .i64 n]] w (WordTo l c f3 f7 d a b n w) := by
  have hbd := form_bounds op hop
  have HF := Lib.hid (fun W => FormOf_any (op : Int) W)
  unfold FormTo formV formZ at HF
  rw [Int.toNat_natCast, hF0] at HF
  rw [hF0] at hbd
  obtain ⟨hc, h3, h7⟩ := hbd
  simp only at hc h3 h7
  subst hl
  clear hF0
  have HH := Lib.hid (headI c f3 d a b hc h3 hd ha hb)
  have hHl := headN_lt c f3 d a b hc h3 hd ha hb
  obtain ⟨H, hH⟩ : ∃ H, H = headN c f3 d a b := ⟨_, rfl⟩
  rw [← hH] at HH hHl
  have HHe := Lib.hid hH
  clear hH
  have hq0 : bitI n 0 12 < 4096 := bitI_lt n 0 12
  go_enter Tryz.func55, Tryz.ntmps55
  go_wp2_with fail
  refine Calls.mono (HF.out _) ?_
  rintro e w1 ⟨rfl, hB1⟩
  have hB0 : Below w.heap.size w (w.alloc (.cells #[.int .i64 op, .int .i64 d, .int .i64 a, .int .i64 b, .int .i64 n] 78)) := form1 w _
  have hBw := hB0.trans (hB1.mono hB0.size)
  have hb1 : w1.heap[w.heap.size]? = some (.cells #[.int .i64 op, .int .i64 d, .int .i64 a, .int .i64 b, .int .i64 n] 78 (0, 0)) := (hB1.block _ (by rw [World.size_alloc]; omega)).trans (heap_alloc_new w _)
  have hz : w.heap.size < w1.heap.size := by have := hB1.size; rw [World.size_alloc] at this; omega
  have x1 : w1.cell? ⟨w.heap.size, 1, none⟩ = some (.int .i64 d) := (obj_cell hb1 1).trans rfl
  have x2 : w1.cell? ⟨w.heap.size, 2, none⟩ = some (.int .i64 a) := (obj_cell hb1 2).trans rfl
  have x3 : w1.cell? ⟨w.heap.size, 3, none⟩ = some (.int .i64 b) := (obj_cell hb1 3).trans rfl
  have x4 : w1.cell? ⟨w.heap.size, 4, none⟩ = some (.int .i64 n) := (obj_cell hb1 4).trans rfl
  clear hb1 hB0
  go_wp2_with (first
    | (go_at_call 78; (with_reducible refine (rbits_0_12 n _).mono ?_); rintro e w' ⟨rfl, rfl⟩))
  go_ret
  refine ⟨congrArg (fun z => Ending.returned (Value.int IntKind.u32 z)) ?_, ?_⟩
  · rw [HH.out]
    unfold rwordN
    rw [← HHe.out]
    simp only [Nat.reduceEqDiff, if_true, if_false, or_self]
    rw [orN _ (bitI n 0 12 * 1048576) hHl (by omega) _ _ rfl (by omega)]
  · first | exact hBw.alloc hBw.size _ | exact bdrewN (hBw.alloc hBw.size _) _
set_option maxRecDepth 20000 in
set_option maxHeartbeats 4000000 in
theorem rword_72 (op d a b : Nat) (n : Int) (hop : op < 66) (hd : d < 32) (ha : a < 32) (hb : b < 32) (l c f3 f7 : Nat) (hF0 : formR op = (l, c, f3, f7)) (hl : l = 72) (w : World) :
    Calls Tryz.prog 55 #[.agg #[.int .i64 (op : Int), .int .i64 (d : Int), .int .i64 (a : Int), .int .i64 (b : Int), .int .i64 n]] w (WordTo l c f3 f7 d a b n w) := by
  have hbd := form_bounds op hop
  have HF := Lib.hid (fun W => FormOf_any (op : Int) W)
  unfold FormTo formV formZ at HF
  rw [Int.toNat_natCast, hF0] at HF
  rw [hF0] at hbd
  obtain ⟨hc, h3, h7⟩ := hbd
  simp only at hc h3 h7
  subst hl
  clear hF0
  have HH := Lib.hid (headI c f3 d a b hc h3 hd ha hb)
  have hHl := headN_lt c f3 d a b hc h3 hd ha hb
  obtain ⟨H, hH⟩ : ∃ H, H = headN c f3 d a b := ⟨_, rfl⟩
  rw [← hH] at HH hHl
  have HHe := Lib.hid hH
  clear hH
  go_enter Tryz.func55, Tryz.ntmps55
  go_wp2_with fail
  refine Calls.mono (HF.out _) ?_
  rintro e w1 ⟨rfl, hB1⟩
  have hB0 : Below w.heap.size w (w.alloc (.cells #[.int .i64 op, .int .i64 d, .int .i64 a, .int .i64 b, .int .i64 n] 78)) := form1 w _
  have hBw := hB0.trans (hB1.mono hB0.size)
  have hb1 : w1.heap[w.heap.size]? = some (.cells #[.int .i64 op, .int .i64 d, .int .i64 a, .int .i64 b, .int .i64 n] 78 (0, 0)) := (hB1.block _ (by rw [World.size_alloc]; omega)).trans (heap_alloc_new w _)
  have hz : w.heap.size < w1.heap.size := by have := hB1.size; rw [World.size_alloc] at this; omega
  have x1 : w1.cell? ⟨w.heap.size, 1, none⟩ = some (.int .i64 d) := (obj_cell hb1 1).trans rfl
  have x2 : w1.cell? ⟨w.heap.size, 2, none⟩ = some (.int .i64 a) := (obj_cell hb1 2).trans rfl
  have x3 : w1.cell? ⟨w.heap.size, 3, none⟩ = some (.int .i64 b) := (obj_cell hb1 3).trans rfl
  have x4 : w1.cell? ⟨w.heap.size, 4, none⟩ = some (.int .i64 n) := (obj_cell hb1 4).trans rfl
  clear hb1 hB0
  go_wp2
  go_ret
  refine ⟨congrArg (fun z => Ending.returned (Value.int IntKind.u32 z)) ?_, ?_⟩
  · rw [HH.out]
    unfold rwordN
    rw [← HHe.out]
    simp only [Nat.reduceEqDiff, if_true, if_false, true_or]
    rw [orN _ (f7 * 33554432) hHl (by omega) _ _ rfl (by omega), orN _ ((n % 4294967296).toNat * 1048576 % 4294967296) (or_lt32 hHl (by omega)) (by omega) _ _ rfl (by omega)]
  · first | exact hBw.alloc hBw.size _ | exact bdrewN (hBw.alloc hBw.size _) _
set_option maxRecDepth 20000 in
set_option maxHeartbeats 4000000 in
theorem rword_104 (op d a b : Nat) (n : Int) (hop : op < 66) (hd : d < 32) (ha : a < 32) (hb : b < 32) (l c f3 f7 : Nat) (hF0 : formR op = (l, c, f3, f7)) (hl : l = 104) (w : World) :
    Calls Tryz.prog 55 #[.agg #[.int .i64 (op : Int), .int .i64 (d : Int), .int .i64 (a : Int), .int .i64 (b : Int), .int .i64 n]] w (WordTo l c f3 f7 d a b n w) := by
  have hbd := form_bounds op hop
  have HF := Lib.hid (fun W => FormOf_any (op : Int) W)
  unfold FormTo formV formZ at HF
  rw [Int.toNat_natCast, hF0] at HF
  rw [hF0] at hbd
  obtain ⟨hc, h3, h7⟩ := hbd
  simp only at hc h3 h7
  subst hl
  clear hF0
  have HH := Lib.hid (headI c f3 d a b hc h3 hd ha hb)
  have hHl := headN_lt c f3 d a b hc h3 hd ha hb
  obtain ⟨H, hH⟩ : ∃ H, H = headN c f3 d a b := ⟨_, rfl⟩
  rw [← hH] at HH hHl
  have HHe := Lib.hid hH
  clear hH
  go_enter Tryz.func55, Tryz.ntmps55
  go_wp2_with fail
  refine Calls.mono (HF.out _) ?_
  rintro e w1 ⟨rfl, hB1⟩
  have hB0 : Below w.heap.size w (w.alloc (.cells #[.int .i64 op, .int .i64 d, .int .i64 a, .int .i64 b, .int .i64 n] 78)) := form1 w _
  have hBw := hB0.trans (hB1.mono hB0.size)
  have hb1 : w1.heap[w.heap.size]? = some (.cells #[.int .i64 op, .int .i64 d, .int .i64 a, .int .i64 b, .int .i64 n] 78 (0, 0)) := (hB1.block _ (by rw [World.size_alloc]; omega)).trans (heap_alloc_new w _)
  have hz : w.heap.size < w1.heap.size := by have := hB1.size; rw [World.size_alloc] at this; omega
  have x1 : w1.cell? ⟨w.heap.size, 1, none⟩ = some (.int .i64 d) := (obj_cell hb1 1).trans rfl
  have x2 : w1.cell? ⟨w.heap.size, 2, none⟩ = some (.int .i64 a) := (obj_cell hb1 2).trans rfl
  have x3 : w1.cell? ⟨w.heap.size, 3, none⟩ = some (.int .i64 b) := (obj_cell hb1 3).trans rfl
  have x4 : w1.cell? ⟨w.heap.size, 4, none⟩ = some (.int .i64 n) := (obj_cell hb1 4).trans rfl
  clear hb1 hB0
  go_wp2
  go_ret
  refine ⟨congrArg (fun z => Ending.returned (Value.int IntKind.u32 z)) ?_, ?_⟩
  · rw [HH.out]
    unfold rwordN
    rw [← HHe.out]
    simp only [Nat.reduceEqDiff, if_true, if_false, or_true]
    rw [orN _ (f7 * 33554432) hHl (by omega) _ _ rfl (by omega), orN _ ((n % 4294967296).toNat * 1048576 % 4294967296) (or_lt32 hHl (by omega)) (by omega) _ _ rfl (by omega)]
  · first | exact hBw.alloc hBw.size _ | exact bdrewN (hBw.alloc hBw.size _) _
set_option maxRecDepth 20000 in
set_option maxHeartbeats 4000000 in
theorem rword_83 (op d a b : Nat) (n : Int) (hop : op < 66) (hd : d < 32) (ha : a < 32) (hb : b < 32) (l c f3 f7 : Nat) (hF0 : formR op = (l, c, f3, f7)) (hl : l = 83) (w : World) :
    Calls Tryz.prog 55 #[.agg #[.int .i64 (op : Int), .int .i64 (d : Int), .int .i64 (a : Int), .int .i64 (b : Int), .int .i64 n]] w (WordTo l c f3 f7 d a b n w) := by
  have hbd := form_bounds op hop
  have HF := Lib.hid (fun W => FormOf_any (op : Int) W)
  unfold FormTo formV formZ at HF
  rw [Int.toNat_natCast, hF0] at HF
  rw [hF0] at hbd
  obtain ⟨hc, h3, h7⟩ := hbd
  simp only at hc h3 h7
  subst hl
  clear hF0
  have HH := Lib.hid (headI c f3 d a b hc h3 hd ha hb)
  have hHl := headN_lt c f3 d a b hc h3 hd ha hb
  obtain ⟨H, hH⟩ : ∃ H, H = headN c f3 d a b := ⟨_, rfl⟩
  rw [← hH] at HH hHl
  have HHe := Lib.hid hH
  clear hH
  have hq0 : bitI n 0 5 < 32 := bitI_lt n 0 5
  have hq1 : bitI n 5 7 < 128 := bitI_lt n 5 7
  go_enter Tryz.func55, Tryz.ntmps55
  go_wp2_with fail
  refine Calls.mono (HF.out _) ?_
  rintro e w1 ⟨rfl, hB1⟩
  have hB0 : Below w.heap.size w (w.alloc (.cells #[.int .i64 op, .int .i64 d, .int .i64 a, .int .i64 b, .int .i64 n] 78)) := form1 w _
  have hBw := hB0.trans (hB1.mono hB0.size)
  have hb1 : w1.heap[w.heap.size]? = some (.cells #[.int .i64 op, .int .i64 d, .int .i64 a, .int .i64 b, .int .i64 n] 78 (0, 0)) := (hB1.block _ (by rw [World.size_alloc]; omega)).trans (heap_alloc_new w _)
  have hz : w.heap.size < w1.heap.size := by have := hB1.size; rw [World.size_alloc] at this; omega
  have x1 : w1.cell? ⟨w.heap.size, 1, none⟩ = some (.int .i64 d) := (obj_cell hb1 1).trans rfl
  have x2 : w1.cell? ⟨w.heap.size, 2, none⟩ = some (.int .i64 a) := (obj_cell hb1 2).trans rfl
  have x3 : w1.cell? ⟨w.heap.size, 3, none⟩ = some (.int .i64 b) := (obj_cell hb1 3).trans rfl
  have x4 : w1.cell? ⟨w.heap.size, 4, none⟩ = some (.int .i64 n) := (obj_cell hb1 4).trans rfl
  clear hb1 hB0
  go_wp2
  go_quiet ((first
    | (go_at_call 78; (with_reducible exact Calls.quiet_of_same (rbits_0_5 n _)))
    | (go_at_call 78; (with_reducible exact Calls.quiet_of_same (rbits_5_7 n _)))))
  go_wp2
  go_ret
  refine ⟨congrArg (fun z => Ending.returned (Value.int IntKind.u32 z)) ?_, ?_⟩
  · rw [HH.out]
    unfold rwordN
    rw [← HHe.out]
    simp only [Nat.reduceEqDiff, if_true, if_false, or_self]
    rw [orN _ (bitI n 0 5 * 128) hHl (by omega) _ _ rfl (by omega), orN _ (bitI n 5 7 * 33554432) (or_lt32 hHl (by omega)) (by omega) _ _ rfl (by omega)]
  · first | exact hBw.alloc hBw.size _ | exact bdrewN (hBw.alloc hBw.size _) _
set_option maxRecDepth 20000 in
set_option maxHeartbeats 4000000 in
theorem rword_66 (op d a b : Nat) (n : Int) (hop : op < 66) (hd : d < 32) (ha : a < 32) (hb : b < 32) (l c f3 f7 : Nat) (hF0 : formR op = (l, c, f3, f7)) (hl : l = 66) (w : World) :
    Calls Tryz.prog 55 #[.agg #[.int .i64 (op : Int), .int .i64 (d : Int), .int .i64 (a : Int), .int .i64 (b : Int), .int .i64 n]] w (WordTo l c f3 f7 d a b n w) := by
  have hbd := form_bounds op hop
  have HF := Lib.hid (fun W => FormOf_any (op : Int) W)
  unfold FormTo formV formZ at HF
  rw [Int.toNat_natCast, hF0] at HF
  rw [hF0] at hbd
  obtain ⟨hc, h3, h7⟩ := hbd
  simp only at hc h3 h7
  subst hl
  clear hF0
  have HH := Lib.hid (headI c f3 d a b hc h3 hd ha hb)
  have hHl := headN_lt c f3 d a b hc h3 hd ha hb
  obtain ⟨H, hH⟩ : ∃ H, H = headN c f3 d a b := ⟨_, rfl⟩
  rw [← hH] at HH hHl
  have HHe := Lib.hid hH
  clear hH
  have hq0 : bitI n 11 1 < 2 := bitI_lt n 11 1
  have hq1 : bitI n 1 4 < 16 := bitI_lt n 1 4
  have hq2 : bitI n 5 6 < 64 := bitI_lt n 5 6
  have hq3 : bitI n 12 1 < 2 := bitI_lt n 12 1
  go_enter Tryz.func55, Tryz.ntmps55
  go_wp2_with fail
  refine Calls.mono (HF.out _) ?_
  rintro e w1 ⟨rfl, hB1⟩
  have hB0 : Below w.heap.size w (w.alloc (.cells #[.int .i64 op, .int .i64 d, .int .i64 a, .int .i64 b, .int .i64 n] 78)) := form1 w _
  have hBw := hB0.trans (hB1.mono hB0.size)
  have hb1 : w1.heap[w.heap.size]? = some (.cells #[.int .i64 op, .int .i64 d, .int .i64 a, .int .i64 b, .int .i64 n] 78 (0, 0)) := (hB1.block _ (by rw [World.size_alloc]; omega)).trans (heap_alloc_new w _)
  have hz : w.heap.size < w1.heap.size := by have := hB1.size; rw [World.size_alloc] at this; omega
  have x1 : w1.cell? ⟨w.heap.size, 1, none⟩ = some (.int .i64 d) := (obj_cell hb1 1).trans rfl
  have x2 : w1.cell? ⟨w.heap.size, 2, none⟩ = some (.int .i64 a) := (obj_cell hb1 2).trans rfl
  have x3 : w1.cell? ⟨w.heap.size, 3, none⟩ = some (.int .i64 b) := (obj_cell hb1 3).trans rfl
  have x4 : w1.cell? ⟨w.heap.size, 4, none⟩ = some (.int .i64 n) := (obj_cell hb1 4).trans rfl
  clear hb1 hB0
  go_wp2
  go_quiet ((first
    | (go_at_call 78; (with_reducible exact Calls.quiet_of_same (rbits_11_1 n _)))
    | (go_at_call 78; (with_reducible exact Calls.quiet_of_same (rbits_1_4 n _)))
    | (go_at_call 78; (with_reducible exact Calls.quiet_of_same (rbits_5_6 n _)))
    | (go_at_call 78; (with_reducible exact Calls.quiet_of_same (rbits_12_1 n _)))))
  go_wp2
  go_ret
  refine ⟨congrArg (fun z => Ending.returned (Value.int IntKind.u32 z)) ?_, ?_⟩
  · rw [HH.out]
    unfold rwordN
    rw [← HHe.out]
    simp only [Nat.reduceEqDiff, if_true, if_false, or_self]
    rw [orN _ (bitI n 11 1 * 128) hHl (by omega) _ _ rfl (by omega), orN _ (bitI n 1 4 * 256) (or_lt32 hHl (by omega)) (by omega) _ _ rfl (by omega), orN _ (bitI n 5 6 * 33554432) (or_lt32 (or_lt32 hHl (by omega)) (by omega)) (by omega) _ _ rfl (by omega), orN _ (bitI n 12 1 * 2147483648) (or_lt32 (or_lt32 (or_lt32 hHl (by omega)) (by omega)) (by omega)) (by omega) _ _ rfl (by omega)]
  · first | exact hBw.alloc hBw.size _ | exact bdrewN (hBw.alloc hBw.size _) _
set_option maxRecDepth 20000 in
set_option maxHeartbeats 4000000 in
theorem rword_85 (op d a b : Nat) (n : Int) (hop : op < 66) (hd : d < 32) (ha : a < 32) (hb : b < 32) (l c f3 f7 : Nat) (hF0 : formR op = (l, c, f3, f7)) (hl : l = 85) (w : World) :
    Calls Tryz.prog 55 #[.agg #[.int .i64 (op : Int), .int .i64 (d : Int), .int .i64 (a : Int), .int .i64 (b : Int), .int .i64 n]] w (WordTo l c f3 f7 d a b n w) := by
  have hbd := form_bounds op hop
  have HF := Lib.hid (fun W => FormOf_any (op : Int) W)
  unfold FormTo formV formZ at HF
  rw [Int.toNat_natCast, hF0] at HF
  rw [hF0] at hbd
  obtain ⟨hc, h3, h7⟩ := hbd
  simp only at hc h3 h7
  subst hl
  clear hF0
  have HH := Lib.hid (headI c f3 d a b hc h3 hd ha hb)
  have hHl := headN_lt c f3 d a b hc h3 hd ha hb
  obtain ⟨H, hH⟩ : ∃ H, H = headN c f3 d a b := ⟨_, rfl⟩
  rw [← hH] at HH hHl
  have HHe := Lib.hid hH
  clear hH
  have hq0 : bitI n 0 20 < 1048576 := bitI_lt n 0 20
  go_enter Tryz.func55, Tryz.ntmps55
  go_wp2_with fail
  refine Calls.mono (HF.out _) ?_
  rintro e w1 ⟨rfl, hB1⟩
  have hB0 : Below w.heap.size w (w.alloc (.cells #[.int .i64 op, .int .i64 d, .int .i64 a, .int .i64 b, .int .i64 n] 78)) := form1 w _
  have hBw := hB0.trans (hB1.mono hB0.size)
  have hb1 : w1.heap[w.heap.size]? = some (.cells #[.int .i64 op, .int .i64 d, .int .i64 a, .int .i64 b, .int .i64 n] 78 (0, 0)) := (hB1.block _ (by rw [World.size_alloc]; omega)).trans (heap_alloc_new w _)
  have hz : w.heap.size < w1.heap.size := by have := hB1.size; rw [World.size_alloc] at this; omega
  have x1 : w1.cell? ⟨w.heap.size, 1, none⟩ = some (.int .i64 d) := (obj_cell hb1 1).trans rfl
  have x2 : w1.cell? ⟨w.heap.size, 2, none⟩ = some (.int .i64 a) := (obj_cell hb1 2).trans rfl
  have x3 : w1.cell? ⟨w.heap.size, 3, none⟩ = some (.int .i64 b) := (obj_cell hb1 3).trans rfl
  have x4 : w1.cell? ⟨w.heap.size, 4, none⟩ = some (.int .i64 n) := (obj_cell hb1 4).trans rfl
  clear hb1 hB0
  go_wp2_with (first
    | (go_at_call 78; (with_reducible refine (rbits_0_20 n _).mono ?_); rintro e w' ⟨rfl, rfl⟩))
  go_ret
  refine ⟨congrArg (fun z => Ending.returned (Value.int IntKind.u32 z)) ?_, ?_⟩
  · rw [HH.out]
    unfold rwordN
    rw [← HHe.out]
    simp only [Nat.reduceEqDiff, if_true, if_false, or_self]
    rw [orN _ (bitI n 0 20 * 4096) hHl (by omega) _ _ rfl (by omega)]
  · first | exact hBw.alloc hBw.size _ | exact bdrewN (hBw.alloc hBw.size _) _
set_option maxRecDepth 20000 in
set_option maxHeartbeats 4000000 in
theorem rword_74 (op d a b : Nat) (n : Int) (hop : op < 66) (hd : d < 32) (ha : a < 32) (hb : b < 32) (l c f3 f7 : Nat) (hF0 : formR op = (l, c, f3, f7)) (hl : l = 74) (w : World) :
    Calls Tryz.prog 55 #[.agg #[.int .i64 (op : Int), .int .i64 (d : Int), .int .i64 (a : Int), .int .i64 (b : Int), .int .i64 n]] w (WordTo l c f3 f7 d a b n w) := by
  have hbd := form_bounds op hop
  have HF := Lib.hid (fun W => FormOf_any (op : Int) W)
  unfold FormTo formV formZ at HF
  rw [Int.toNat_natCast, hF0] at HF
  rw [hF0] at hbd
  obtain ⟨hc, h3, h7⟩ := hbd
  simp only at hc h3 h7
  subst hl
  clear hF0
  have HH := Lib.hid (headI c f3 d a b hc h3 hd ha hb)
  have hHl := headN_lt c f3 d a b hc h3 hd ha hb
  obtain ⟨H, hH⟩ : ∃ H, H = headN c f3 d a b := ⟨_, rfl⟩
  rw [← hH] at HH hHl
  have HHe := Lib.hid hH
  clear hH
  have hq0 : bitI n 12 8 < 256 := bitI_lt n 12 8
  have hq1 : bitI n 11 1 < 2 := bitI_lt n 11 1
  have hq2 : bitI n 1 10 < 1024 := bitI_lt n 1 10
  have hq3 : bitI n 20 1 < 2 := bitI_lt n 20 1
  go_enter Tryz.func55, Tryz.ntmps55
  go_wp2_with fail
  refine Calls.mono (HF.out _) ?_
  rintro e w1 ⟨rfl, hB1⟩
  have hB0 : Below w.heap.size w (w.alloc (.cells #[.int .i64 op, .int .i64 d, .int .i64 a, .int .i64 b, .int .i64 n] 78)) := form1 w _
  have hBw := hB0.trans (hB1.mono hB0.size)
  have hb1 : w1.heap[w.heap.size]? = some (.cells #[.int .i64 op, .int .i64 d, .int .i64 a, .int .i64 b, .int .i64 n] 78 (0, 0)) := (hB1.block _ (by rw [World.size_alloc]; omega)).trans (heap_alloc_new w _)
  have hz : w.heap.size < w1.heap.size := by have := hB1.size; rw [World.size_alloc] at this; omega
  have x1 : w1.cell? ⟨w.heap.size, 1, none⟩ = some (.int .i64 d) := (obj_cell hb1 1).trans rfl
  have x2 : w1.cell? ⟨w.heap.size, 2, none⟩ = some (.int .i64 a) := (obj_cell hb1 2).trans rfl
  have x3 : w1.cell? ⟨w.heap.size, 3, none⟩ = some (.int .i64 b) := (obj_cell hb1 3).trans rfl
  have x4 : w1.cell? ⟨w.heap.size, 4, none⟩ = some (.int .i64 n) := (obj_cell hb1 4).trans rfl
  clear hb1 hB0
  go_wp2
  go_quiet ((first
    | (go_at_call 78; (with_reducible exact Calls.quiet_of_same (rbits_12_8 n _)))
    | (go_at_call 78; (with_reducible exact Calls.quiet_of_same (rbits_11_1 n _)))
    | (go_at_call 78; (with_reducible exact Calls.quiet_of_same (rbits_1_10 n _)))
    | (go_at_call 78; (with_reducible exact Calls.quiet_of_same (rbits_20_1 n _)))))
  go_wp2
  go_ret
  refine ⟨congrArg (fun z => Ending.returned (Value.int IntKind.u32 z)) ?_, ?_⟩
  · rw [HH.out]
    unfold rwordN
    rw [← HHe.out]
    simp only [Nat.reduceEqDiff, if_true, if_false, or_self]
    rw [orN _ (bitI n 12 8 * 4096) hHl (by omega) _ _ rfl (by omega), orN _ (bitI n 11 1 * 1048576) (or_lt32 hHl (by omega)) (by omega) _ _ rfl (by omega), orN _ (bitI n 1 10 * 2097152) (or_lt32 (or_lt32 hHl (by omega)) (by omega)) (by omega) _ _ rfl (by omega), orN _ (bitI n 20 1 * 2147483648) (or_lt32 (or_lt32 (or_lt32 hHl (by omega)) (by omega)) (by omega)) (by omega) _ _ rfl (by omega)]
  · first | exact hBw.alloc hBw.size _ | exact bdrewN (hBw.alloc hBw.size _) _
set_option maxRecDepth 20000 in
set_option maxHeartbeats 4000000 in
theorem rword_78 (op d a b : Nat) (n : Int) (hop : op < 66) (hd : d < 32) (ha : a < 32) (hb : b < 32) (l c f3 f7 : Nat) (hF0 : formR op = (l, c, f3, f7)) (hl : l = 78) (w : World) :
    Calls Tryz.prog 55 #[.agg #[.int .i64 (op : Int), .int .i64 (d : Int), .int .i64 (a : Int), .int .i64 (b : Int), .int .i64 n]] w (WordTo l c f3 f7 d a b n w) := by
  have hbd := form_bounds op hop
  have HF := Lib.hid (fun W => FormOf_any (op : Int) W)
  unfold FormTo formV formZ at HF
  rw [Int.toNat_natCast, hF0] at HF
  rw [hF0] at hbd
  obtain ⟨hc, h3, h7⟩ := hbd
  simp only at hc h3 h7
  subst hl
  clear hF0
  have HH := Lib.hid (headI c f3 d a b hc h3 hd ha hb)
  have hHl := headN_lt c f3 d a b hc h3 hd ha hb
  obtain ⟨H, hH⟩ : ∃ H, H = headN c f3 d a b := ⟨_, rfl⟩
  rw [← hH] at HH hHl
  have HHe := Lib.hid hH
  clear hH
  go_enter Tryz.func55, Tryz.ntmps55
  go_wp2_with fail
  refine Calls.mono (HF.out _) ?_
  rintro e w1 ⟨rfl, hB1⟩
  have hB0 : Below w.heap.size w (w.alloc (.cells #[.int .i64 op, .int .i64 d, .int .i64 a, .int .i64 b, .int .i64 n] 78)) := form1 w _
  have hBw := hB0.trans (hB1.mono hB0.size)
  have hb1 : w1.heap[w.heap.size]? = some (.cells #[.int .i64 op, .int .i64 d, .int .i64 a, .int .i64 b, .int .i64 n] 78 (0, 0)) := (hB1.block _ (by rw [World.size_alloc]; omega)).trans (heap_alloc_new w _)
  have hz : w.heap.size < w1.heap.size := by have := hB1.size; rw [World.size_alloc] at this; omega
  have x1 : w1.cell? ⟨w.heap.size, 1, none⟩ = some (.int .i64 d) := (obj_cell hb1 1).trans rfl
  have x2 : w1.cell? ⟨w.heap.size, 2, none⟩ = some (.int .i64 a) := (obj_cell hb1 2).trans rfl
  have x3 : w1.cell? ⟨w.heap.size, 3, none⟩ = some (.int .i64 b) := (obj_cell hb1 3).trans rfl
  have x4 : w1.cell? ⟨w.heap.size, 4, none⟩ = some (.int .i64 n) := (obj_cell hb1 4).trans rfl
  clear hb1 hB0
  go_wp2
  go_ret
  refine ⟨congrArg (fun z => Ending.returned (Value.int IntKind.u32 z)) ?_, ?_⟩
  · rw [HH.out]
    unfold rwordN
    rw [← HHe.out]
    rfl
  · first | exact hBw.alloc hBw.size _ | exact bdrewN (hBw.alloc hBw.size _) _
set_option maxRecDepth 20000 in
set_option maxHeartbeats 4000000 in
theorem rword_0 (op d a b : Nat) (n : Int) (hop : op < 66) (hd : d < 32) (ha : a < 32) (hb : b < 32) (l c f3 f7 : Nat) (hF0 : formR op = (l, c, f3, f7)) (hl : l = 0) (w : World) :
    Calls Tryz.prog 55 #[.agg #[.int .i64 (op : Int), .int .i64 (d : Int), .int .i64 (a : Int), .int .i64 (b : Int), .int .i64 n]] w (WordTo l c f3 f7 d a b n w) := by
  have hbd := form_bounds op hop
  have HF := Lib.hid (fun W => FormOf_any (op : Int) W)
  unfold FormTo formV formZ at HF
  rw [Int.toNat_natCast, hF0] at HF
  rw [hF0] at hbd
  obtain ⟨hc, h3, h7⟩ := hbd
  simp only at hc h3 h7
  subst hl
  clear hF0
  have HH := Lib.hid (headI c f3 d a b hc h3 hd ha hb)
  have hHl := headN_lt c f3 d a b hc h3 hd ha hb
  obtain ⟨H, hH⟩ : ∃ H, H = headN c f3 d a b := ⟨_, rfl⟩
  rw [← hH] at HH hHl
  have HHe := Lib.hid hH
  clear hH
  go_enter Tryz.func55, Tryz.ntmps55
  go_wp2_with fail
  refine Calls.mono (HF.out _) ?_
  rintro e w1 ⟨rfl, hB1⟩
  have hB0 : Below w.heap.size w (w.alloc (.cells #[.int .i64 op, .int .i64 d, .int .i64 a, .int .i64 b, .int .i64 n] 78)) := form1 w _
  have hBw := hB0.trans (hB1.mono hB0.size)
  have hb1 : w1.heap[w.heap.size]? = some (.cells #[.int .i64 op, .int .i64 d, .int .i64 a, .int .i64 b, .int .i64 n] 78 (0, 0)) := (hB1.block _ (by rw [World.size_alloc]; omega)).trans (heap_alloc_new w _)
  have hz : w.heap.size < w1.heap.size := by have := hB1.size; rw [World.size_alloc] at this; omega
  have x1 : w1.cell? ⟨w.heap.size, 1, none⟩ = some (.int .i64 d) := (obj_cell hb1 1).trans rfl
  have x2 : w1.cell? ⟨w.heap.size, 2, none⟩ = some (.int .i64 a) := (obj_cell hb1 2).trans rfl
  have x3 : w1.cell? ⟨w.heap.size, 3, none⟩ = some (.int .i64 b) := (obj_cell hb1 3).trans rfl
  have x4 : w1.cell? ⟨w.heap.size, 4, none⟩ = some (.int .i64 n) := (obj_cell hb1 4).trans rfl
  clear hb1 hB0
  go_wp2
  go_ret
  refine ⟨congrArg (fun z => Ending.returned (Value.int IntKind.u32 z)) ?_, ?_⟩
  · rw [HH.out]
    unfold rwordN
    rw [← HHe.out]
    rfl
  · first | exact hBw.alloc hBw.size _ | exact bdrewN (hBw.alloc hBw.size _) _
theorem rword_any (op d a b : Nat) (n : Int) (hop : op < 66) (hd : d < 32) (ha : a < 32) (hb : b < 32) (w : World) :
    Calls Tryz.prog 55 #[.agg #[.int .i64 (op : Int), .int .i64 (d : Int), .int .i64 (a : Int), .int .i64 (b : Int), .int .i64 n]] w (WordTo (formR op).1 (formR op).2.1 (formR op).2.2.1 (formR op).2.2.2 d a b n w) := by
  have hl : (formR op).1 ∈ lettersL := formR_letter _
  generalize hF : formR op = F at *
  obtain ⟨l, c, f3, f7⟩ := F
  simp only [lettersL, List.mem_cons, List.not_mem_nil, or_false] at hl
  rcases hl with h | h | h | h | h | h | h | h | h | h
  · exact rword_0 op d a b n hop hd ha hb l c f3 f7 hF h w
  · exact rword_85 op d a b n hop hd ha hb l c f3 f7 hF h w
  · exact rword_74 op d a b n hop hd ha hb l c f3 f7 hF h w
  · exact rword_73 op d a b n hop hd ha hb l c f3 f7 hF h w
  · exact rword_66 op d a b n hop hd ha hb l c f3 f7 hF h w
  · exact rword_83 op d a b n hop hd ha hb l c f3 f7 hF h w
  · exact rword_72 op d a b n hop hd ha hb l c f3 f7 hF h w
  · exact rword_104 op d a b n hop hd ha hb l c f3 f7 hF h w
  · exact rword_82 op d a b n hop hd ha hb l c f3 f7 hF h w
  · exact rword_78 op d a b n hop hd ha hb l c f3 f7 hF h w
end Go.Proofs

/- patinaref01.Decode finds what patina/rv.Decode finds. -/
namespace Go.Pat
open Go Go.RowKit
theorem gIns_small (op x : Nat) : (gIns op x).rd < 32 ∧ (gIns op x).rs1 < 32 ∧ (gIns op x).rs2 < 32 := by
  unfold gIns
  refine ⟨?_, ?_, ?_⟩ <;> simp only <;> split <;> omega
theorem regB_of (n : Nat) (nm : Bool) (h : n < 32) : regB (if nm then n else 0 : Nat) nm = true := by
  cases nm
  · rfl
  · simp only [regB, if_true, Bool.and_eq_true, decide_eq_true_eq]; omega
theorem gIns_right (op x : Nat) (h1 : 1 ≤ op) (h2 : op < 66) : rightI (op : Int) (gIns op x).rd (gIns op x).rs1 (gIns op x).rs2 (gIns op x).imm = true := by
  have hl : (formR op).1 ∈ lettersL := formR_letter _
  have h0 : (formR op).1 ≠ 0 := by
    obtain ⟨k, rfl⟩ : ∃ k, op = k + 1 := ⟨op - 1, by omega⟩
    exact (show ∀ k, k < 65 → (formR (k + 1)).1 ≠ 0 by decide) k (by omega)
  unfold rightI formZ
  rw [Int.toNat_natCast]
  unfold gIns
  simp only
  rw [immB1_g _ x hl, regB_of _ _ (by omega), regB_of _ _ (by omega), regB_of _ _ (by omega)]
  simp [h0]
theorem bitsN_eq (w f c a : Nat) (h : w / 2 ^ f % 2 ^ c * 2 ^ a < 4294967296) : bitsN w f c a = w / 2 ^ f % 2 ^ c * 2 ^ a := Nat.mod_eq_of_lt h
theorem immV_S (x : Nat) (hx : x < 4294967296) : bitsN x 7 5 0 ||| bitsN x 25 7 5 = x / 128 % 32 + x / 33554432 * 32 := by
  rw [bitsN_eq _ _ _ _ (by omega), bitsN_eq _ _ _ _ (by omega), or_add _ _ 5 (by omega)]
  omega
theorem immV_B (x : Nat) (hx : x < 4294967296) : bitsN x 7 1 11 ||| bitsN x 8 4 1 ||| bitsN x 25 6 5 ||| bitsN x 31 1 12 = x / 256 % 16 * 2 + x / 33554432 % 64 * 32 + x / 128 % 2 * 2048 + x / 2147483648 * 4096 := by
  rw [Nat.or_comm (bitsN x 7 1 11), Nat.or_assoc (bitsN x 8 4 1), Nat.or_comm (bitsN x 7 1 11), ← Nat.or_assoc,
    bitsN_eq _ _ _ _ (by omega), bitsN_eq _ _ _ _ (by omega), bitsN_eq _ _ _ _ (by omega), bitsN_eq _ _ _ _ (by omega), or_add _ _ 5 (by omega), or_add _ _ 11 (by omega), or_add _ _ 12 (by omega)]
  omega
theorem immV_J (x : Nat) (hx : x < 4294967296) : bitsN x 12 8 12 ||| bitsN x 20 1 11 ||| bitsN x 21 10 1 ||| bitsN x 31 1 20 = x / 2097152 % 1024 * 2 + x / 1048576 % 2 * 2048 + x / 4096 % 256 * 4096 + x / 2147483648 * 1048576 := by
  rw [Nat.or_comm _ (bitsN x 21 10 1), Nat.or_comm (bitsN x 12 8 12), ← Nat.or_assoc,
    bitsN_eq _ _ _ _ (by omega), bitsN_eq _ _ _ _ (by omega), bitsN_eq _ _ _ _ (by omega), bitsN_eq _ _ _ _ (by omega), or_add _ _ 11 (by omega), or_add _ _ 12 (by omega), or_add _ _ 20 (by omega)]
  omega
theorem gIns_fits (op x : Nat) (h1 : 1 ≤ op) (h2 : op < 66) (hx : x < 4294967296) (hf : fitsR op x = true) : gIns op x = insOf op x := by
  have ht := tab_ok op h1 h2
  unfold gIns insOf
  unfold fitsR at hf
  unfold tabOK at ht
  generalize hF : formR op = F at *
  generalize hR : rvRow op = R at *
  obtain ⟨l, c, f3, f7⟩ := F
  simp only [Bool.or_eq_true, Bool.and_eq_true, beq_iff_eq, decide_eq_true_eq] at ht
  rcases ht with (((((((⟨⟨⟨⟨rfl, rfl⟩, a1⟩, a2⟩, a3⟩ | ⟨⟨⟨rfl, rfl⟩, a1⟩, a2⟩) | ⟨⟨⟨⟨⟨rfl, rfl⟩, a1⟩, a2⟩, a3⟩, a4⟩) | ⟨⟨⟨⟨rfl, rfl⟩, rfl⟩, a3⟩, a4⟩) | ⟨⟨⟨rfl, rfl⟩, a1⟩, a2⟩) | ⟨⟨⟨rfl, rfl⟩, a1⟩, a2⟩) | ⟨⟨⟨rfl, rfl⟩, a1⟩, rfl⟩) | ⟨⟨⟨rfl, rfl⟩, a1⟩, rfl⟩) | ⟨⟨rfl, rfl⟩, rfl⟩
  · simp [hasD1, hasD, has11, has1, has21, has2, gImm, immV]
  · simp [hasD1, hasD, has11, has1, has21, has2, gImm, immV]
  · simp [hasD1, hasD, has11, has1, has21, has2, gImm, immV]
  · have e : x / 1048576 % 32 = x / 1048576 % 64 := by
      simp [fitsB] at hf
      omega
    have e' : (x : Int) / 1048576 % 32 = (x : Int) / 1048576 % 64 := by omega
    simp [hasD1, hasD, has11, has1, has21, has2, gImm, immV, e']
  · simp [hasD1, hasD, has11, has1, has21, has2, gImm, immV, immV_S x hx]
  · simp [hasD1, hasD, has11, has1, has21, has2, gImm, immV, immV_B x hx]
  · simp [hasD1, hasD, has11, has1, has21, has2, gImm, immV]
  · simp [hasD1, hasD, has11, has1, has21, has2, gImm, immV, immV_J x hx]
  · simp [hasD1, hasD, has11, has1, has21, has2, gImm, immV]
end Go.Pat
namespace Go.Proofs
open Go Go.RowKit Go.Pat
theorem r1dec_ret (tmps : Array Value) (Wp : World) (b : Nat) (hb : Wp.heap[b]? = some (.cells z5 78 (0, 0))) (v0 v1 v2 v3 v4 : Value) (Post : Ending → World → Prop) (h2 : tmps[2]?.getD undef = .pointer (some ⟨b, 0, none⟩)) (h3 : tmps[3]?.getD undef = .int .i64 0)
    (h : Post (.returned (.tuple #[.agg #[v0, v1, v2, v3, v4], .int .i64 0])) (((((Wp.setCell ⟨b, 0, none⟩ v0).setCell ⟨b, 1, none⟩ v1).setCell ⟨b, 2, none⟩ v2).setCell ⟨b, 3, none⟩ v3).setCell ⟨b, 4, none⟩ v4)) :
    bodyPost Tryz.prog Tryz.f33 Post Exit.ret ⟨tmps, []⟩ (((((Wp.setCell ⟨b, 0, none⟩ v0).setCell ⟨b, 1, none⟩ v1).setCell ⟨b, 2, none⟩ v2).setCell ⟨b, 3, none⟩ v3).setCell ⟨b, 4, none⟩ v4) := by
  have hX := obj_set (obj_set (obj_set (obj_set (obj_set hb 0 v0) 1 v1) 2 v2) 3 v3) 4 v4
  have hc : ((((z5.setIfInBounds 0 v0).setIfInBounds 1 v1).setIfInBounds 2 v2).setIfInBounds 3 v3).setIfInBounds 4 v4 = #[v0, v1, v2, v3, v4] := by simp [z5]
  rw [hc] at hX
  exact bodyPost_ret (results_dec _ rfl tmps b _ _ (.int .i64 0) h2 h3 hX rfl) rfl h
set_option maxRecDepth 20000 in
set_option maxHeartbeats 4000000 in
theorem r1Decode_any (x : Nat) (hx : x < 4294967296) (w : World) :
    Calls Tryz.prog 33 #[.int .u32 x] w fun e w' => e = .returned (decV x) ∧ Below w.heap.size w w' := by
  obtain ⟨w1, hw1⟩ : ∃ w1 : World, w1 = w.alloc (.cells z5 78) := ⟨_, rfl⟩
  have hr1 : w1.heap[w.heap.size]? = some (.cells z5 78 (0, 0)) := by rw [hw1]; exact heap_alloc_new w _
  have hB1 : Below w.heap.size w w1 := by rw [hw1]; exact (Below.refl _ _).alloc (Nat.le_refl _) _
  have hs1 : w1.heap.size = w.heap.size + 1 := by rw [hw1, World.size_alloc]
  unfold z5 at hw1
  have HW := Lib.hid hw1
  clear hw1
  go_enter Tryz.func33, Tryz.ntmps33
  go_upto_region 1 with fail
  rw [← HW.out]
  go_wp2_with fail
  go_loopw [4] (fun i wr => ∃ k : Nat, 1 ≤ k ∧ k ≤ 66 ∧ i = .int .i64 k ∧ decGo x (66 - k) k = decGo x 65 1 ∧ Below w1.heap.size w1 wr) (fun i _ => 66 - (intOf i).toNat)
  case atStart => exact ⟨1, by omega, by omega, rfl, rfl, Below.refl _ _⟩
  case round =>
    obtain ⟨k, hk1, hk2, rfl, hd, hB⟩ := hrel
    have hrr := (hB.block _ (by omega)).trans hr1
    by_cases hlt : k < 66
    · have t1 : decide ((k : Int) ≤ 65) = true := decide_eq_true (by omega)
      have HG : ∀ W : World, Calls Tryz.prog 53 #[.int .i64 (k : Int), .int .u32 (x : Int)] W fun e w' => e = .returned (.agg #[.int .i64 (k : Int), .int .i64 ((gIns k x).rd : Int), .int .i64 ((gIns k x).rs1 : Int), .int .i64 ((gIns k x).rs2 : Int), .int .i64 (gIns k x).imm]) ∧ Below W.heap.size W w' :=
        fun W => guess_any k x hlt hx W
      obtain ⟨g1, g2, g3⟩ := gIns_small k x
      have HT : ∀ W : World, Calls Tryz.prog 54 #[.agg #[.int .i64 (k : Int), .int .i64 ((gIns k x).rd : Int), .int .i64 ((gIns k x).rs1 : Int), .int .i64 ((gIns k x).rs2 : Int), .int .i64 (gIns k x).imm]] W fun e w' => e = .returned (.bool true) ∧ Below W.heap.size W w' := fun W => by
        have := r1Right_any (k : Int) (gIns k x).rd (gIns k x).rs1 (gIns k x).rs2 (gIns k x).imm W
        rw [gIns_right k x hk1 hlt] at this
        exact this
      have HO : ∀ W : World, Calls Tryz.prog 55 #[.agg #[.int .i64 (k : Int), .int .i64 ((gIns k x).rd : Int), .int .i64 ((gIns k x).rs1 : Int), .int .i64 ((gIns k x).rs2 : Int), .int .i64 (gIns k x).imm]] W fun e w' => e = .returned (.int .u32 (gWord k x : Int)) ∧ Below W.heap.size W w' :=
        fun W => rword_any k _ _ _ _ hlt g1 g2 g3 W
      have hfin : fitsR k x = true → decV x = .tuple #[.agg #[.int .i64 (k : Int), .int .i64 ((gIns k x).rd : Int), .int .i64 ((gIns k x).rs1 : Int), .int .i64 ((gIns k x).rs2 : Int), .int .i64 (gIns k x).imm], .int .i64 0] := fun hf => by
        unfold decV
        rw [decR_hit hd hlt hf]
        show _ = Value.tuple #[.agg (gIns k x).cells, .int .i64 0]
        rw [gIns_fits k x hk1 hlt hx hf]
      have hfw := gWord_fits k x hk1 hlt hx
      generalize (gIns k x).rd = d at *
      generalize (gIns k x).rs1 = a at *
      generalize (gIns k x).rs2 = b at *
      generalize (gIns k x).imm = n at *
      generalize gWord k x = q at *
      have hsz : w.heap.size < wr.heap.size := by have := hB.size; omega
      have HGh := Lib.hid HG
      have HTh := Lib.hid HT
      have HOh := Lib.hid HO
      have hle : w.heap.size ≤ wr.heap.size := by omega
      have hBt : Below w.heap.size w wr := hB1.trans (hB.mono hB1.size)
      have HDh := Lib.hid (And.intro hfin hd)
      clear HG HT HO hfin hd hB1 hk2
      go_wp2_with fail
      refine Calls.mono (HGh.out _) ?_
      rintro e w3 ⟨rfl, hB3⟩
      have hz3 : wr.heap.size ≤ w3.heap.size := hB3.size
      have hr3 := (hB3.block _ hsz).trans hrr
      go_wp2_with fail
      refine Calls.mono (HTh.out _) ?_
      rintro e w4 ⟨rfl, hB4⟩
      have hz4 : w3.heap.size + 1 ≤ w4.heap.size := by have := hB4.size; rw [World.size_alloc] at this; exact this
      have hb4 := (hB4.block _ (by rw [World.size_alloc]; omega)).trans (heap_alloc_new w3 (.cells #[.int .i64 (k : Int), .int .i64 d, .int .i64 a, .int .i64 b, .int .i64 n] 78))
      have hr4 := (hB4.block _ (by rw [World.size_alloc]; omega)).trans ((Below.heap_alloc w3 _ _ (by omega)).trans hr3)
      have y0 : w4.cell? ⟨w3.heap.size, 0, none⟩ = some (.int .i64 k) := (obj_cell hb4 0).trans rfl
      have y1 : w4.cell? ⟨w3.heap.size, 1, none⟩ = some (.int .i64 d) := (obj_cell hb4 1).trans rfl
      have y2 : w4.cell? ⟨w3.heap.size, 2, none⟩ = some (.int .i64 a) := (obj_cell hb4 2).trans rfl
      have y3 : w4.cell? ⟨w3.heap.size, 3, none⟩ = some (.int .i64 b) := (obj_cell hb4 3).trans rfl
      have y4 : w4.cell? ⟨w3.heap.size, 4, none⟩ = some (.int .i64 n) := (obj_cell hb4 4).trans rfl
      go_wp2_with fail
      refine Calls.mono (HOh.out _) ?_
      rintro e w5 ⟨rfl, hB5⟩
      clear y0 y1 y2 y3 y4
      have hb5 := (hB5.block _ (by omega)).trans hb4
      have hr5 := (hB5.block _ (by omega)).trans hr4
      have hBf : Below wr.heap.size wr w5 := (hB3.trans (((Below.refl _ _).alloc (Nat.le_refl _) _ : Below w3.heap.size w3 (w3.alloc _)).mono hz3)).trans ((hB4.mono (by rw [World.size_alloc]; omega)).trans (hB5.mono (by omega)))
      cases hf : fitsR k x with
      | false =>
        have t2 : ((q : Int) == (x : Int)) = false := by
          rw [beq_eq_false_iff_ne]; intro h; rw [hf] at hfw; exact absurd (hfw.1 (by omega)) (by decide)
        have HD := Lib.hid (show decGo x (66 - (k + 1)) (k + 1) = decGo x 65 1 by
          rw [← HDh.out.2, decGo_step x k hlt, hf]; rfl)
        clear hfw hf
        go_wp2
        go_roundw
        case rel => exact ⟨k + 1, by omega, by omega, by go_num, HD.out, hB.trans (hBf.mono hB.size)⟩
        case measure => simp [intOf]; omega
      | true =>
        have t2 : ((q : Int) == (x : Int)) = true := by
          rw [beq_iff_eq]; rw [hf] at hfw; have := hfw.2 rfl; omega
        have HD := Lib.hid (HDh.out.1 hf)
        clear hfw hf
        have y0 : w5.cell? ⟨w3.heap.size, 0, none⟩ = some (.int .i64 k) := (obj_cell hb5 0).trans rfl
        have y1 : w5.cell? ⟨w3.heap.size, 1, none⟩ = some (.int .i64 d) := (obj_cell hb5 1).trans rfl
        have y2 : w5.cell? ⟨w3.heap.size, 2, none⟩ = some (.int .i64 a) := (obj_cell hb5 2).trans rfl
        have y3 : w5.cell? ⟨w3.heap.size, 3, none⟩ = some (.int .i64 b) := (obj_cell hb5 3).trans rfl
        have y4 : w5.cell? ⟨w3.heap.size, 4, none⟩ = some (.int .i64 n) := (obj_cell hb5 4).trans rfl
        have q0 : w5.cell? ⟨w.heap.size, 0, none⟩ = some (.int .i64 0) := (obj_cell hr5 0).trans rfl
        have p0 := obj_frozen hr5 0
        have q1 : w5.cell? ⟨w.heap.size, 1, none⟩ = some (.int .i64 0) := (obj_cell hr5 1).trans rfl
        have p1 := obj_frozen hr5 1
        have q2 : w5.cell? ⟨w.heap.size, 2, none⟩ = some (.int .i64 0) := (obj_cell hr5 2).trans rfl
        have p2 := obj_frozen hr5 2
        have q3 : w5.cell? ⟨w.heap.size, 3, none⟩ = some (.int .i64 0) := (obj_cell hr5 3).trans rfl
        have p3 := obj_frozen hr5 3
        have q4 : w5.cell? ⟨w.heap.size, 4, none⟩ = some (.int .i64 0) := (obj_cell hr5 4).trans rfl
        have p4 := obj_frozen hr5 4
        go_wp2
        refine r1dec_ret _ _ w.heap.size hr5 _ _ _ _ _ _ rfl rfl ⟨by rw [HD.out], ?_⟩
        exact bset (bset (bset (bset (bset (hBt.trans (hBf.mono hle)) _ (Nat.le_refl _) _) _ (Nat.le_refl _) _) _ (Nat.le_refl _) _) _ (Nat.le_refl _) _) _ (Nat.le_refl _) _
    · have t1 : decide ((k : Int) ≤ 65) = false := decide_eq_false (by omega)
      obtain rfl : k = 66 := by omega
      have HD := Lib.hid (decR_miss hd)
      have q0 : wr.cell? ⟨w.heap.size, 0, none⟩ = some (.int .i64 0) := (obj_cell hrr 0).trans rfl
      have p0 := obj_frozen hrr 0
      have q1 : wr.cell? ⟨w.heap.size, 1, none⟩ = some (.int .i64 0) := (obj_cell hrr 1).trans rfl
      have p1 := obj_frozen hrr 1
      have q2 : wr.cell? ⟨w.heap.size, 2, none⟩ = some (.int .i64 0) := (obj_cell hrr 2).trans rfl
      have p2 := obj_frozen hrr 2
      have q3 : wr.cell? ⟨w.heap.size, 3, none⟩ = some (.int .i64 0) := (obj_cell hrr 3).trans rfl
      have p3 := obj_frozen hrr 3
      have q4 : wr.cell? ⟨w.heap.size, 4, none⟩ = some (.int .i64 0) := (obj_cell hrr 4).trans rfl
      have p4 := obj_frozen hrr 4
      go_wp2
      have hX := obj_set (obj_set (obj_set (obj_set (obj_set hrr 0 (.int .i64 0)) 1 (.int .i64 0)) 2 (.int .i64 0)) 3 (.int .i64 0)) 4 (.int .i64 0)
      refine bodyPost_ret (v := .tuple #[.agg z5, .int .i64 10]) (results_dec _ rfl _ w.heap.size z5 _ (.int .i64 10) rfl rfl hX rfl) rfl ?_
      exact ⟨by unfold decV; rw [HD.out, ← z5_is], bset (bset (bset (bset (bset (hB1.trans (hB.mono hB1.size)) _ (Nat.le_refl _) _) _ (Nat.le_refl _) _) _ (Nat.le_refl _) _) _ (Nat.le_refl _) _) _ (Nat.le_refl _) _⟩
end Go.Proofs
