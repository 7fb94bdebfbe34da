/- patinaref01.part, signed, guess: what a word would be as an operation's instruction. -/
import Derived.Test.YtemngapfnkokiaaDoorRightR
import Derived.Test.YtemngapfnkokiaaDoorRv
namespace Go.Pat
open Go Go.RowKit
theorem sgn_hi (n c : Nat) (hn : n < 2 ^ c) (h : 2 ^ (c - 1) ≤ n) : sgn n c = (n : Int) - 2 ^ c := by
  unfold sgn
  rw [Nat.mod_eq_of_lt hn, if_neg (by omega)]
theorem sgn_lo (n c : Nat) (hn : n < 2 ^ c) (h : n < 2 ^ (c - 1)) : sgn n c = (n : Int) := by
  unfold sgn
  rw [Nat.mod_eq_of_lt hn, if_pos h]
end Go.Pat
namespace Go.Proofs
open Go Go.RowKit Go.Pat
theorem part_gen (x f c : Nat) (hx : x < 4294967296) (hf : f < 32) (hc : c < 32) (w : World) :
    Calls Tryd.prog 119 #[.int .u32 (x : Int), .int .u32 (f : Int), .int .u32 (c : Int)] w fun e w' => e = .returned (.int .u32 ((x / 2 ^ f % 2 ^ c : Nat) : Int)) ∧ w' = w := by
  have s1 : ∀ W : World, (Op.shift .shr .u32 (x : Int) .u32 (f : Int)).run Tryd.prog W = .ok (.int .u32 ((x / 2 ^ f : Nat) : Int)) W := fun W => by rw [run_shr .u32 .u32 x f f rfl hf W, fdiv_nat]
  have s2 : ∀ W : World, (Op.shift .shl .u32 1 .u32 (c : Int)).run Tryd.prog W = .ok (.int .u32 ((2 ^ c : Nat) : Int)) W := fun W => by
    rw [run_shl .u32 .u32 1 c c rfl hc W, Int.one_mul, show ((2 : Int) ^ c) = ((2 ^ c : Nat) : Int) by rw [Int.natCast_pow]; rfl, u32_nat _ (Nat.pow_lt_pow_right (by decide) hc)]
  go_enter Tryd.func119, Tryd.ntmps119
  go_wp2
  go_ret
  refine ⟨congrArg (fun z => Ending.returned (Value.int IntKind.u32 z)) ?_, rfl⟩
  rw [ediv_pow, mask_int c hc, Go.Pat.bits_mask _ c (Nat.lt_of_le_of_lt (Nat.div_le_self _ _) hx) hc]
theorem part_7_5 (x : Nat) (hx : x < 4294967296) (w : World) : Calls Tryd.prog 119 #[.int .u32 (x : Int), .int .u32 7, .int .u32 5] w fun e w' => e = .returned (.int .u32 ((x / 128 % 32 : Nat) : Int)) ∧ w' = w := part_gen x 7 5 hx (by decide) (by decide) w
theorem part_15_5 (x : Nat) (hx : x < 4294967296) (w : World) : Calls Tryd.prog 119 #[.int .u32 (x : Int), .int .u32 15, .int .u32 5] w fun e w' => e = .returned (.int .u32 ((x / 32768 % 32 : Nat) : Int)) ∧ w' = w := part_gen x 15 5 hx (by decide) (by decide) w
theorem part_20_5 (x : Nat) (hx : x < 4294967296) (w : World) : Calls Tryd.prog 119 #[.int .u32 (x : Int), .int .u32 20, .int .u32 5] w fun e w' => e = .returned (.int .u32 ((x / 1048576 % 32 : Nat) : Int)) ∧ w' = w := part_gen x 20 5 hx (by decide) (by decide) w
theorem part_20_12 (x : Nat) (hx : x < 4294967296) (w : World) : Calls Tryd.prog 119 #[.int .u32 (x : Int), .int .u32 20, .int .u32 12] w fun e w' => e = .returned (.int .u32 ((x / 1048576 % 4096 : Nat) : Int)) ∧ w' = w := part_gen x 20 12 hx (by decide) (by decide) w
theorem part_20_6 (x : Nat) (hx : x < 4294967296) (w : World) : Calls Tryd.prog 119 #[.int .u32 (x : Int), .int .u32 20, .int .u32 6] w fun e w' => e = .returned (.int .u32 ((x / 1048576 % 64 : Nat) : Int)) ∧ w' = w := part_gen x 20 6 hx (by decide) (by decide) w
theorem part_25_7 (x : Nat) (hx : x < 4294967296) (w : World) : Calls Tryd.prog 119 #[.int .u32 (x : Int), .int .u32 25, .int .u32 7] w fun e w' => e = .returned (.int .u32 ((x / 33554432 % 128 : Nat) : Int)) ∧ w' = w := part_gen x 25 7 hx (by decide) (by decide) w
theorem part_8_4 (x : Nat) (hx : x < 4294967296) (w : World) : Calls Tryd.prog 119 #[.int .u32 (x : Int), .int .u32 8, .int .u32 4] w fun e w' => e = .returned (.int .u32 ((x / 256 % 16 : Nat) : Int)) ∧ w' = w := part_gen x 8 4 hx (by decide) (by decide) w
theorem part_25_6 (x : Nat) (hx : x < 4294967296) (w : World) : Calls Tryd.prog 119 #[.int .u32 (x : Int), .int .u32 25, .int .u32 6] w fun e w' => e = .returned (.int .u32 ((x / 33554432 % 64 : Nat) : Int)) ∧ w' = w := part_gen x 25 6 hx (by decide) (by decide) w
theorem part_7_1 (x : Nat) (hx : x < 4294967296) (w : World) : Calls Tryd.prog 119 #[.int .u32 (x : Int), .int .u32 7, .int .u32 1] w fun e w' => e = .returned (.int .u32 ((x / 128 % 2 : Nat) : Int)) ∧ w' = w := part_gen x 7 1 hx (by decide) (by decide) w
theorem part_31_1 (x : Nat) (hx : x < 4294967296) (w : World) : Calls Tryd.prog 119 #[.int .u32 (x : Int), .int .u32 31, .int .u32 1] w fun e w' => e = .returned (.int .u32 ((x / 2147483648 % 2 : Nat) : Int)) ∧ w' = w := part_gen x 31 1 hx (by decide) (by decide) w
theorem part_12_20 (x : Nat) (hx : x < 4294967296) (w : World) : Calls Tryd.prog 119 #[.int .u32 (x : Int), .int .u32 12, .int .u32 20] w fun e w' => e = .returned (.int .u32 ((x / 4096 % 1048576 : Nat) : Int)) ∧ w' = w := part_gen x 12 20 hx (by decide) (by decide) w
theorem part_21_10 (x : Nat) (hx : x < 4294967296) (w : World) : Calls Tryd.prog 119 #[.int .u32 (x : Int), .int .u32 21, .int .u32 10] w fun e w' => e = .returned (.int .u32 ((x / 2097152 % 1024 : Nat) : Int)) ∧ w' = w := part_gen x 21 10 hx (by decide) (by decide) w
theorem part_20_1 (x : Nat) (hx : x < 4294967296) (w : World) : Calls Tryd.prog 119 #[.int .u32 (x : Int), .int .u32 20, .int .u32 1] w fun e w' => e = .returned (.int .u32 ((x / 1048576 % 2 : Nat) : Int)) ∧ w' = w := part_gen x 20 1 hx (by decide) (by decide) w
theorem part_12_8 (x : Nat) (hx : x < 4294967296) (w : World) : Calls Tryd.prog 119 #[.int .u32 (x : Int), .int .u32 12, .int .u32 8] w fun e w' => e = .returned (.int .u32 ((x / 4096 % 256 : Nat) : Int)) ∧ w' = w := part_gen x 12 8 hx (by decide) (by decide) w
theorem r1signed_12 (n : Nat) (hn : n < 4096) (z : Int) (hz : z = (n : Int)) (w : World) : Calls Tryd.prog 120 #[.int .u32 z, .int .u32 12] w fun e w' => e = .returned (.int .i64 (sgn n 12)) ∧ w' = w := by
  subst hz
  by_cases h : 2048 ≤ n
  · have HS := Lib.hid (sgn_hi n 12 hn h)
    have t1 : (bits .and .u32 ((n : Int) / 2048) 1 == 1) = true := by
      rw [show ((n : Int) / 2048) = ((n / 2048 : Nat) : Int) from (Int.natCast_ediv n 2048).symm, show (1 : Int) = ((2 ^ 1 - 1 : Nat) : Int) from rfl, Go.Pat.bits_mask _ 1 (by omega) (by decide), show n / 2048 % 2 ^ 1 = 1 by omega]
      rfl
    go_enter Tryd.func120, Tryd.ntmps120
    go_wp2
    go_ret
    refine ⟨congrArg (fun z => Ending.returned (Value.int IntKind.i64 z)) ?_, rfl⟩
    first | (rw [HS.out]; done) | (rw [HS.out]; rfl) | (rw [HS.out]; omega)
  · have HS := Lib.hid (sgn_lo n 12 hn (by omega))
    have t1 : (bits .and .u32 ((n : Int) / 2048) 1 == 1) = false := by
      rw [show ((n : Int) / 2048) = ((n / 2048 : Nat) : Int) from (Int.natCast_ediv n 2048).symm, show (1 : Int) = ((2 ^ 1 - 1 : Nat) : Int) from rfl, Go.Pat.bits_mask _ 1 (by omega) (by decide), show n / 2048 % 2 ^ 1 = 0 by omega]
      rfl
    go_enter Tryd.func120, Tryd.ntmps120
    go_wp2
    go_ret
    refine ⟨congrArg (fun z => Ending.returned (Value.int IntKind.i64 z)) ?_, rfl⟩
    first | (rw [HS.out]; done) | (rw [HS.out]; rfl) | (rw [HS.out]; omega)
theorem r1signed_13 (n : Nat) (hn : n < 8192) (z : Int) (hz : z = (n : Int)) (w : World) : Calls Tryd.prog 120 #[.int .u32 z, .int .u32 13] w fun e w' => e = .returned (.int .i64 (sgn n 13)) ∧ w' = w := by
  subst hz
  by_cases h : 4096 ≤ n
  · have HS := Lib.hid (sgn_hi n 13 hn h)
    have t1 : (bits .and .u32 ((n : Int) / 4096) 1 == 1) = true := by
      rw [show ((n : Int) / 4096) = ((n / 4096 : Nat) : Int) from (Int.natCast_ediv n 4096).symm, show (1 : Int) = ((2 ^ 1 - 1 : Nat) : Int) from rfl, Go.Pat.bits_mask _ 1 (by omega) (by decide), show n / 4096 % 2 ^ 1 = 1 by omega]
      rfl
    go_enter Tryd.func120, Tryd.ntmps120
    go_wp2
    go_ret
    refine ⟨congrArg (fun z => Ending.returned (Value.int IntKind.i64 z)) ?_, rfl⟩
    first | (rw [HS.out]; done) | (rw [HS.out]; rfl) | (rw [HS.out]; omega)
  · have HS := Lib.hid (sgn_lo n 13 hn (by omega))
    have t1 : (bits .and .u32 ((n : Int) / 4096) 1 == 1) = false := by
      rw [show ((n : Int) / 4096) = ((n / 4096 : Nat) : Int) from (Int.natCast_ediv n 4096).symm, show (1 : Int) = ((2 ^ 1 - 1 : Nat) : Int) from rfl, Go.Pat.bits_mask _ 1 (by omega) (by decide), show n / 4096 % 2 ^ 1 = 0 by omega]
      rfl
    go_enter Tryd.func120, Tryd.ntmps120
    go_wp2
    go_ret
    refine ⟨congrArg (fun z => Ending.returned (Value.int IntKind.i64 z)) ?_, rfl⟩
    first | (rw [HS.out]; done) | (rw [HS.out]; rfl) | (rw [HS.out]; omega)
theorem r1signed_20 (n : Nat) (hn : n < 1048576) (z : Int) (hz : z = (n : Int)) (w : World) : Calls Tryd.prog 120 #[.int .u32 z, .int .u32 20] w fun e w' => e = .returned (.int .i64 (sgn n 20)) ∧ w' = w := by
  subst hz
  by_cases h : 524288 ≤ n
  · have HS := Lib.hid (sgn_hi n 20 hn h)
    have t1 : (bits .and .u32 ((n : Int) / 524288) 1 == 1) = true := by
      rw [show ((n : Int) / 524288) = ((n / 524288 : Nat) : Int) from (Int.natCast_ediv n 524288).symm, show (1 : Int) = ((2 ^ 1 - 1 : Nat) : Int) from rfl, Go.Pat.bits_mask _ 1 (by omega) (by decide), show n / 524288 % 2 ^ 1 = 1 by omega]
      rfl
    go_enter Tryd.func120, Tryd.ntmps120
    go_wp2
    go_ret
    refine ⟨congrArg (fun z => Ending.returned (Value.int IntKind.i64 z)) ?_, rfl⟩
    first | (rw [HS.out]; done) | (rw [HS.out]; rfl) | (rw [HS.out]; omega)
  · have HS := Lib.hid (sgn_lo n 20 hn (by omega))
    have t1 : (bits .and .u32 ((n : Int) / 524288) 1 == 1) = false := by
      rw [show ((n : Int) / 524288) = ((n / 524288 : Nat) : Int) from (Int.natCast_ediv n 524288).symm, show (1 : Int) = ((2 ^ 1 - 1 : Nat) : Int) from rfl, Go.Pat.bits_mask _ 1 (by omega) (by decide), show n / 524288 % 2 ^ 1 = 0 by omega]
      rfl
    go_enter Tryd.func120, Tryd.ntmps120
    go_wp2
    go_ret
    refine ⟨congrArg (fun z => Ending.returned (Value.int IntKind.i64 z)) ?_, rfl⟩
    first | (rw [HS.out]; done) | (rw [HS.out]; rfl) | (rw [HS.out]; omega)
theorem r1signed_21 (n : Nat) (hn : n < 2097152) (z : Int) (hz : z = (n : Int)) (w : World) : Calls Tryd.prog 120 #[.int .u32 z, .int .u32 21] w fun e w' => e = .returned (.int .i64 (sgn n 21)) ∧ w' = w := by
  subst hz
  by_cases h : 1048576 ≤ n
  · have HS := Lib.hid (sgn_hi n 21 hn h)
    have t1 : (bits .and .u32 ((n : Int) / 1048576) 1 == 1) = true := by
      rw [show ((n : Int) / 1048576) = ((n / 1048576 : Nat) : Int) from (Int.natCast_ediv n 1048576).symm, show (1 : Int) = ((2 ^ 1 - 1 : Nat) : Int) from rfl, Go.Pat.bits_mask _ 1 (by omega) (by decide), show n / 1048576 % 2 ^ 1 = 1 by omega]
      rfl
    go_enter Tryd.func120, Tryd.ntmps120
    go_wp2
    go_ret
    refine ⟨congrArg (fun z => Ending.returned (Value.int IntKind.i64 z)) ?_, rfl⟩
    first | (rw [HS.out]; done) | (rw [HS.out]; rfl) | (rw [HS.out]; omega)
  · have HS := Lib.hid (sgn_lo n 21 hn (by omega))
    have t1 : (bits .and .u32 ((n : Int) / 1048576) 1 == 1) = false := by
      rw [show ((n : Int) / 1048576) = ((n / 1048576 : Nat) : Int) from (Int.natCast_ediv n 1048576).symm, show (1 : Int) = ((2 ^ 1 - 1 : Nat) : Int) from rfl, Go.Pat.bits_mask _ 1 (by omega) (by decide), show n / 1048576 % 2 ^ 1 = 0 by omega]
      rfl
    go_enter Tryd.func120, Tryd.ntmps120
    go_wp2
    go_ret
    refine ⟨congrArg (fun z => Ending.returned (Value.int IntKind.i64 z)) ?_, rfl⟩
    first | (rw [HS.out]; done) | (rw [HS.out]; rfl) | (rw [HS.out]; omega)
end Go.Proofs
