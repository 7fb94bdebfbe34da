/- patinaref01.bits, Word: an instruction's word. -/
import Derived.Test.YtemngapfnkokiaaDoorGuess
import Derived.Test.YtemngapfnkokiaaDoorWordP
import Derived.Test.YtemngapfnkokiaaDoorDec
import Derived.BigQuiet
import Derived.Deep.QuietTactic
namespace Go.Pat
open Go Go.RowKit
theorem bitI_lt (n : Int) (f c : Nat) : bitI n f c < 2 ^ c := by
  unfold bitI
  have h : (0 : Int) < 2 ^ c := by rw [pow_int]; exact Int.ofNat_lt.2 (Nat.pow_pos (by decide))
  have h1 := Int.emod_lt_of_pos (n / 2 ^ f) h
  have h0 := Int.emod_nonneg (n / 2 ^ f) (Int.ne_of_gt h)
  exact (Int.toNat_lt h0).2 (by rw [← pow_int]; exact h1)
theorem bitI_mask (n : Int) (f c : Nat) (hc : c < 32) : bits .and .u32 (n / 2 ^ f % 4294967296) (((2 : Int) ^ c - 1) % 4294967296) = ((bitI n f c : Nat) : Int) := by
  have h0 : 0 ≤ n / 2 ^ f % 4294967296 := Int.emod_nonneg _ (by decide)
  have h1 : n / 2 ^ f % 4294967296 < 4294967296 := Int.emod_lt_of_pos _ (by decide)
  have hd : (2 : Int) ^ c ∣ 4294967296 := ⟨2 ^ (32 - c), by rw [← Int.pow_add, show c + (32 - c) = 32 by omega]; rfl⟩
  have e : (n / 2 ^ f % 4294967296).toNat % 2 ^ c = bitI n f c := by
    unfold bitI
    rw [← Int.emod_emod_of_dvd (n / 2 ^ f) hd, pow_int c]
    generalize n / 2 ^ f % 4294967296 = m at *
    obtain ⟨k, rfl⟩ : ∃ k : Nat, m = k := ⟨m.toNat, by omega⟩
    rw [← Int.natCast_emod]; rfl
  rw [mask_int c hc, show n / 2 ^ f % 4294967296 = ((n / 2 ^ f % 4294967296).toNat : Int) by omega, bits_mask _ c (by omega) hc, e]
theorem orN (a b : Nat) (ha : a < 4294967296) (hb : b < 4294967296) (y z : Int) (hy : y = (a : Int)) (hz : z = (b : Int)) : bits .or .u32 y z = ((a ||| b : Nat) : Int) := by
  rw [hy, hz, bits_or_u32 _ _ ha hb]
theorem headN_lt (c f3 d a b : Nat) (hc : c < 4294967296) (h3 : f3 < 8) (hd : d < 32) (ha : a < 32) (hb : b < 32) : headN c f3 d a b < 4294967296 :=
  or_lt32 (or_lt32 (or_lt32 (or_lt32 hc (by omega)) (by omega)) (by omega)) (by omega)
theorem headI (c f3 d a b : Nat) (hc : c < 4294967296) (h3 : f3 < 8) (hd : d < 32) (ha : a < 32) (hb : b < 32) :
    bits .or .u32 (bits .or .u32 (bits .or .u32 (bits .or .u32 (c : Int) ((f3 : Int) * 4096)) ((d : Int) * 128)) ((a : Int) * 32768)) ((b : Int) * 1048576) = ((headN c f3 d a b : Nat) : Int) := by
  unfold headN
  rw [orN c (f3 * 4096) hc (by omega) _ _ rfl (by omega), orN _ (d * 128) (or_lt32 hc (by omega)) (by omega) _ _ rfl (by omega), orN _ (a * 32768) (or_lt32 (or_lt32 hc (by omega)) (by omega)) (by omega) _ _ rfl (by omega),
    orN _ (b * 1048576) (or_lt32 (or_lt32 (or_lt32 hc (by omega)) (by omega)) (by omega)) (by omega) _ _ rfl (by omega)]
theorem form_bounds (op : Nat) (hop : op < 66) : (formR op).2.1 < 4294967296 ∧ (formR op).2.2.1 < 8 ∧ (formR op).2.2.2 < 64 :=
  (show ∀ k, k < 66 → (formR k).2.1 < 4294967296 ∧ (formR k).2.2.1 < 8 ∧ (formR k).2.2.2 < 64 by decide) op hop
end Go.Pat
namespace Go.Proofs
open Go Go.RowKit Go.Pat
theorem rbits_gen (n : Int) (f c : Nat) (hf : f < 64) (hc : c < 32) (w : World) :
    Calls Tryd.prog 88 #[.int .i64 n, .int .u32 (f : Int), .int .u32 (c : Int)] w fun e w' => e = .returned (.int .u32 ((bitI n f c : Nat) : Int)) ∧ w' = w := by
  have s1 : ∀ W : World, (Op.shift .shr .i64 n .u32 (f : Int)).run Tryd.prog W = .ok (.int .i64 (n / 2 ^ f)) W := fun W => by rw [run_shr .i64 .u32 n f f rfl hf W, Int.fdiv_eq_ediv_of_nonneg _ (by rw [pow_int]; exact Int.natCast_nonneg _)]
  have s2 : ∀ W : World, (Op.shift .shl .u32 1 .u32 (c : Int)).run Tryd.prog W = .ok (.int .u32 ((2 ^ c : Nat) : Int)) W := fun W => by
    rw [run_shl .u32 .u32 1 c c rfl hc W, Int.one_mul, show ((2 : Int) ^ c) = ((2 ^ c : Nat) : Int) by rw [Int.natCast_pow]; rfl, u32_nat _ (Nat.pow_lt_pow_right (by decide) hc)]
  go_enter Tryd.func88, Tryd.ntmps88
  go_wp2
  go_ret
  refine ⟨congrArg (fun z => Ending.returned (Value.int IntKind.u32 z)) ?_, rfl⟩
  first | exact bitI_mask n f c hc | (have h := bitI_mask n f c hc; simp at h; simpa using h)
theorem rbits_0_12 (n : Int) (w : World) : Calls Tryd.prog 88 #[.int .i64 n, .int .u32 0, .int .u32 12] w fun e w' => e = .returned (.int .u32 ((bitI n 0 12 : Nat) : Int)) ∧ w' = w := rbits_gen n 0 12 (by decide) (by decide) w
theorem rbits_0_5 (n : Int) (w : World) : Calls Tryd.prog 88 #[.int .i64 n, .int .u32 0, .int .u32 5] w fun e w' => e = .returned (.int .u32 ((bitI n 0 5 : Nat) : Int)) ∧ w' = w := rbits_gen n 0 5 (by decide) (by decide) w
theorem rbits_5_7 (n : Int) (w : World) : Calls Tryd.prog 88 #[.int .i64 n, .int .u32 5, .int .u32 7] w fun e w' => e = .returned (.int .u32 ((bitI n 5 7 : Nat) : Int)) ∧ w' = w := rbits_gen n 5 7 (by decide) (by decide) w
theorem rbits_11_1 (n : Int) (w : World) : Calls Tryd.prog 88 #[.int .i64 n, .int .u32 11, .int .u32 1] w fun e w' => e = .returned (.int .u32 ((bitI n 11 1 : Nat) : Int)) ∧ w' = w := rbits_gen n 11 1 (by decide) (by decide) w
theorem rbits_1_4 (n : Int) (w : World) : Calls Tryd.prog 88 #[.int .i64 n, .int .u32 1, .int .u32 4] w fun e w' => e = .returned (.int .u32 ((bitI n 1 4 : Nat) : Int)) ∧ w' = w := rbits_gen n 1 4 (by decide) (by decide) w
theorem rbits_5_6 (n : Int) (w : World) : Calls Tryd.prog 88 #[.int .i64 n, .int .u32 5, .int .u32 6] w fun e w' => e = .returned (.int .u32 ((bitI n 5 6 : Nat) : Int)) ∧ w' = w := rbits_gen n 5 6 (by decide) (by decide) w
theorem rbits_12_1 (n : Int) (w : World) : Calls Tryd.prog 88 #[.int .i64 n, .int .u32 12, .int .u32 1] w fun e w' => e = .returned (.int .u32 ((bitI n 12 1 : Nat) : Int)) ∧ w' = w := rbits_gen n 12 1 (by decide) (by decide) w
theorem rbits_0_20 (n : Int) (w : World) : Calls Tryd.prog 88 #[.int .i64 n, .int .u32 0, .int .u32 20] w fun e w' => e = .returned (.int .u32 ((bitI n 0 20 : Nat) : Int)) ∧ w' = w := rbits_gen n 0 20 (by decide) (by decide) w
theorem rbits_12_8 (n : Int) (w : World) : Calls Tryd.prog 88 #[.int .i64 n, .int .u32 12, .int .u32 8] w fun e w' => e = .returned (.int .u32 ((bitI n 12 8 : Nat) : Int)) ∧ w' = w := rbits_gen n 12 8 (by decide) (by decide) w
theorem rbits_1_10 (n : Int) (w : World) : Calls Tryd.prog 88 #[.int .i64 n, .int .u32 1, .int .u32 10] w fun e w' => e = .returned (.int .u32 ((bitI n 1 10 : Nat) : Int)) ∧ w' = w := rbits_gen n 1 10 (by decide) (by decide) w
theorem rbits_20_1 (n : Int) (w : World) : Calls Tryd.prog 88 #[.int .i64 n, .int .u32 20, .int .u32 1] w fun e w' => e = .returned (.int .u32 ((bitI n 20 1 : Nat) : Int)) ∧ w' = w := rbits_gen n 20 1 (by decide) (by decide) w
def WordTo (l c f3 f7 d a b : Nat) (n : Int) (w : World) (e : Ending) (w' : World) : Prop := e = .returned (.int .u32 ((rwordN l c f3 f7 d a b n : Nat) : Int)) ∧ Below w.heap.size w w'
set_option maxRecDepth 20000 in
set_option maxHeartbeats 4000000 in
theorem rword_82 (op d a b : Nat) (n : Int) (hop : op < 66) (hd : d < 32) (ha : a < 32) (hb : b < 32) (l c f3 f7 : Nat) (hF0 : formR op = (l, c, f3, f7)) (hl : l = 82) (w : World) :
    Calls Tryd.prog 53 #[.agg #[.int .i64 (op : Int), .int .i64 (d : Int), .int .i64 (a : Int), .int .i64 (b : Int), .int .i64 n]] w (WordTo l c f3 f7 d a b n w) := by
  have hbd := form_bounds op hop
  have HF := Lib.hid (fun W => FormOf_any (op : Int) W)
  unfold FormTo formV formZ at HF
  rw [Int.toNat_natCast, hF0] at HF
  rw [hF0] at hbd
  obtain ⟨hc, h3, h7⟩ := hbd
  simp only at hc h3 h7
  subst hl
  clear hF0
  have HH := Lib.hid (headI c f3 d a b hc h3 hd ha hb)
  have hHl := headN_lt c f3 d a b hc h3 hd ha hb
  obtain ⟨H, hH⟩ : ∃ H, H = headN c f3 d a b := ⟨_, rfl⟩
  rw [← hH] at HH hHl
  have HHe := Lib.hid hH
  clear hH
  go_enter Tryd.func53, Tryd.ntmps53
  go_wp2_with fail
  refine Calls.mono (HF.out _) ?_
  rintro e w1 ⟨rfl, hB1⟩
  have hB0 : Below w.heap.size w (w.alloc (.cells #[.int .i64 op, .int .i64 d, .int .i64 a, .int .i64 b, .int .i64 n] 32)) := form1 w _
  have hBw := hB0.trans (hB1.mono hB0.size)
  have hb1 : w1.heap[w.heap.size]? = some (.cells #[.int .i64 op, .int .i64 d, .int .i64 a, .int .i64 b, .int .i64 n] 32 (0, 0)) := (hB1.block _ (by rw [World.size_alloc]; omega)).trans (heap_alloc_new w _)
  have hz : w.heap.size < w1.heap.size := by have := hB1.size; rw [World.size_alloc] at this; omega
  have x1 : w1.cell? ⟨w.heap.size, 1, none⟩ = some (.int .i64 d) := (obj_cell hb1 1).trans rfl
  have x2 : w1.cell? ⟨w.heap.size, 2, none⟩ = some (.int .i64 a) := (obj_cell hb1 2).trans rfl
  have x3 : w1.cell? ⟨w.heap.size, 3, none⟩ = some (.int .i64 b) := (obj_cell hb1 3).trans rfl
  have x4 : w1.cell? ⟨w.heap.size, 4, none⟩ = some (.int .i64 n) := (obj_cell hb1 4).trans rfl
  clear hb1 hB0
  go_wp2
  go_ret
  refine ⟨congrArg (fun z => Ending.returned (Value.int IntKind.u32 z)) ?_, ?_⟩
  · rw [HH.out]
    unfold rwordN
    rw [← HHe.out]
    simp only [Nat.reduceEqDiff, if_true, if_false, or_self]
    rw [orN _ (f7 * 33554432) hHl (by omega) _ _ rfl (by omega)]
  · first | exact hBw.alloc hBw.size _ | exact bdrewN (hBw.alloc hBw.size _) _
set_option maxRecDepth 20000 in
set_option maxHeartbeats 4000000 in
theorem rword_73 (op d a b : Nat) (n : Int) (hop : op < 66) (hd : d < 32) (ha : a < 32) (hb : b < 32) (l c f3 f7 : Nat) (hF0 : formR op = (l, c, f3, f7)) (hl : l = 73) (w : World) :
    Calls Tryd.prog 53 #[.agg #[.int .i64 (op : Int), .int .i64 (d : Int), .int .i64 (a : Int), .int .i64 (b : Int), .int .i64 n]] w (WordTo l c f3 f7 d a b n w) := by
  have hbd := form_bounds op hop
  have HF := Lib.hid (fun W => FormOf_any (op : Int) W)
  unfold FormTo formV formZ at HF
  rw [Int.toNat_natCast, hF0] at HF
  rw [hF0] at hbd
  obtain ⟨hc, h3, h7⟩ := hbd
  simp only at hc h3 h7
  subst hl
  clear hF0
  have HH := Lib.hid (headI c f3 d a b hc h3 hd ha hb)
  have hHl := headN_lt c f3 d a b hc h3 hd ha hb
  obtain ⟨H, hH⟩ : ∃ H, H = headN c f3 d a b := ⟨_, rfl⟩
  rw [← hH] at HH hHl
  have HHe := Lib.hid hH
  clear hH
  have hq0 : bitI n 0 12 < 4096 := bitI_lt n 0 12
  go_enter Tryd.func53, Tryd.ntmps53
  go_wp2_with fail
  refine Calls.mono (HF.out _) ?_
  rintro e w1 ⟨rfl, hB1⟩
  have hB0 : Below w.heap.size w (w.alloc (.cells #[.int .i64 op, .int .i64 d, .int .i64 a, .int .i64 b, .int .i64 n] 32)) := form1 w _
  have hBw := hB0.trans (hB1.mono hB0.size)
  have hb1 : w1.heap[w.heap.size]? = some (.cells #[.int .i64 op, .int .i64 d, .int .i64 a, .int .i64 b, .int .i64 n] 32 (0, 0)) := (hB1.block _ (by rw [World.size_alloc]; omega)).trans (heap_alloc_new w _)
  have hz : w.heap.size < w1.heap.size := by have := hB1.size; rw [World.size_alloc] at this; omega
  have x1 : w1.cell? ⟨w.heap.size, 1, none⟩ = some (.int .i64 d) := (obj_cell hb1 1).trans rfl
  have x2 : w1.cell? ⟨w.heap.size, 2, none⟩ = some (.int .i64 a) := (obj_cell hb1 2).trans rfl
  have x3 : w1.cell? ⟨w.heap.size, 3, none⟩ = some (.int .i64 b) := (obj_cell hb1 3).trans rfl
  have x4 : w1.cell? ⟨w.heap.size, 4, none⟩ = some (.int .i64 n) := (obj_cell hb1 4).trans rfl
  clear hb1 hB0
  go_wp2_with (first
    | (go_at_call 88; (with_reducible refine (rbits_0_12 n _).mono ?_); rintro e w' ⟨rfl, rfl⟩))
  go_ret
  refine ⟨congrArg (fun z => Ending.returned (Value.int IntKind.u32 z)) ?_, ?_⟩
  · rw [HH.out]
    unfold rwordN
    rw [← HHe.out]
    simp only [Nat.reduceEqDiff, if_true, if_false, or_self]
    rw [orN _ (bitI n 0 12 * 1048576) hHl (by omega) _ _ rfl (by omega)]
  · first | exact hBw.alloc hBw.size _ | exact bdrewN (hBw.alloc hBw.size _) _
set_option maxRecDepth 20000 in
set_option maxHeartbeats 4000000 in
theorem rword_72 (op d a b : Nat) (n : Int) (hop : op < 66) (hd : d < 32) (ha : a < 32) (hb : b < 32) (l c f3 f7 : Nat) (hF0 : formR op = (l, c, f3, f7)) (hl : l = 72) (w : World) :
    Calls Tryd.prog 53 #[.agg #[.int .i64 (op : Int), .int .i64 (d : Int), .int .i64 (a : Int), .int .i64 (b : Int), .int .i64 n]] w (WordTo l c f3 f7 d a b n w) := by
  have hbd := form_bounds op hop
  have HF := Lib.hid (fun W => FormOf_any (op : Int) W)
  unfold FormTo formV formZ at HF
  rw [Int.toNat_natCast, hF0] at HF
  rw [hF0] at hbd
  obtain ⟨hc, h3, h7⟩ := hbd
  simp only at hc h3 h7
  subst hl
  clear hF0
  have HH := Lib.hid (headI c f3 d a b hc h3 hd ha hb)
  have hHl := headN_lt c f3 d a b hc h3 hd ha hb
  obtain ⟨H, hH⟩ : ∃ H, H = headN c f3 d a b := ⟨_, rfl⟩
  rw [← hH] at HH hHl
  have HHe := Lib.hid hH
  clear hH
  go_enter Tryd.func53, Tryd.ntmps53
  go_wp2_with fail
  refine Calls.mono (HF.out _) ?_
  rintro e w1 ⟨rfl, hB1⟩
  have hB0 : Below w.heap.size w (w.alloc (.cells #[.int .i64 op, .int .i64 d, .int .i64 a, .int .i64 b, .int .i64 n] 32)) := form1 w _
  have hBw := hB0.trans (hB1.mono hB0.size)
  have hb1 : w1.heap[w.heap.size]? = some (.cells #[.int .i64 op, .int .i64 d, .int .i64 a, .int .i64 b, .int .i64 n] 32 (0, 0)) := (hB1.block _ (by rw [World.size_alloc]; omega)).trans (heap_alloc_new w _)
  have hz : w.heap.size < w1.heap.size := by have := hB1.size; rw [World.size_alloc] at this; omega
  have x1 : w1.cell? ⟨w.heap.size, 1, none⟩ = some (.int .i64 d) := (obj_cell hb1 1).trans rfl
  have x2 : w1.cell? ⟨w.heap.size, 2, none⟩ = some (.int .i64 a) := (obj_cell hb1 2).trans rfl
  have x3 : w1.cell? ⟨w.heap.size, 3, none⟩ = some (.int .i64 b) := (obj_cell hb1 3).trans rfl
  have x4 : w1.cell? ⟨w.heap.size, 4, none⟩ = some (.int .i64 n) := (obj_cell hb1 4).trans rfl
  clear hb1 hB0
  go_wp2
  go_ret
  refine ⟨congrArg (fun z => Ending.returned (Value.int IntKind.u32 z)) ?_, ?_⟩
  · rw [HH.out]
    unfold rwordN
    rw [← HHe.out]
    simp only [Nat.reduceEqDiff, if_true, if_false, true_or]
    rw [orN _ (f7 * 33554432) hHl (by omega) _ _ rfl (by omega), orN _ ((n % 4294967296).toNat * 1048576 % 4294967296) (or_lt32 hHl (by omega)) (by omega) _ _ rfl (by omega)]
  · first | exact hBw.alloc hBw.size _ | exact bdrewN (hBw.alloc hBw.size _) _
set_option maxRecDepth 20000 in
set_option maxHeartbeats 4000000 in
theorem rword_104 (op d a b : Nat) (n : Int) (hop : op < 66) (hd : d < 32) (ha : a < 32) (hb : b < 32) (l c f3 f7 : Nat) (hF0 : formR op = (l, c, f3, f7)) (hl : l = 104) (w : World) :
    Calls Tryd.prog 53 #[.agg #[.int .i64 (op : Int), .int .i64 (d : Int), .int .i64 (a : Int), .int .i64 (b : Int), .int .i64 n]] w (WordTo l c f3 f7 d a b n w) := by
  have hbd := form_bounds op hop
  have HF := Lib.hid (fun W => FormOf_any (op : Int) W)
  unfold FormTo formV formZ at HF
  rw [Int.toNat_natCast, hF0] at HF
  rw [hF0] at hbd
  obtain ⟨hc, h3, h7⟩ := hbd
  simp only at hc h3 h7
  subst hl
  clear hF0
  have HH := Lib.hid (headI c f3 d a b hc h3 hd ha hb)
  have hHl := headN_lt c f3 d a b hc h3 hd ha hb
  obtain ⟨H, hH⟩ : ∃ H, H = headN c f3 d a b := ⟨_, rfl⟩
  rw [← hH] at HH hHl
  have HHe := Lib.hid hH
  clear hH
  go_enter Tryd.func53, Tryd.ntmps53
  go_wp2_with fail
  refine Calls.mono (HF.out _) ?_
  rintro e w1 ⟨rfl, hB1⟩
  have hB0 : Below w.heap.size w (w.alloc (.cells #[.int .i64 op, .int .i64 d, .int .i64 a, .int .i64 b, .int .i64 n] 32)) := form1 w _
  have hBw := hB0.trans (hB1.mono hB0.size)
  have hb1 : w1.heap[w.heap.size]? = some (.cells #[.int .i64 op, .int .i64 d, .int .i64 a, .int .i64 b, .int .i64 n] 32 (0, 0)) := (hB1.block _ (by rw [World.size_alloc]; omega)).trans (heap_alloc_new w _)
  have hz : w.heap.size < w1.heap.size := by have := hB1.size; rw [World.size_alloc] at this; omega
  have x1 : w1.cell? ⟨w.heap.size, 1, none⟩ = some (.int .i64 d) := (obj_cell hb1 1).trans rfl
  have x2 : w1.cell? ⟨w.heap.size, 2, none⟩ = some (.int .i64 a) := (obj_cell hb1 2).trans rfl
  have x3 : w1.cell? ⟨w.heap.size, 3, none⟩ = some (.int .i64 b) := (obj_cell hb1 3).trans rfl
  have x4 : w1.cell? ⟨w.heap.size, 4, none⟩ = some (.int .i64 n) := (obj_cell hb1 4).trans rfl
  clear hb1 hB0
  go_wp2
  go_ret
  refine ⟨congrArg (fun z => Ending.returned (Value.int IntKind.u32 z)) ?_, ?_⟩
  · rw [HH.out]
    unfold rwordN
    rw [← HHe.out]
    simp only [Nat.reduceEqDiff, if_true, if_false, or_true]
    rw [orN _ (f7 * 33554432) hHl (by omega) _ _ rfl (by omega), orN _ ((n % 4294967296).toNat * 1048576 % 4294967296) (or_lt32 hHl (by omega)) (by omega) _ _ rfl (by omega)]
  · first | exact hBw.alloc hBw.size _ | exact bdrewN (hBw.alloc hBw.size _) _
set_option maxRecDepth 20000 in
set_option maxHeartbeats 4000000 in
theorem rword_83 (op d a b : Nat) (n : Int) (hop : op < 66) (hd : d < 32) (ha : a < 32) (hb : b < 32) (l c f3 f7 : Nat) (hF0 : formR op = (l, c, f3, f7)) (hl : l = 83) (w : World) :
    Calls Tryd.prog 53 #[.agg #[.int .i64 (op : Int), .int .i64 (d : Int), .int .i64 (a : Int), .int .i64 (b : Int), .int .i64 n]] w (WordTo l c f3 f7 d a b n w) := by
  have hbd := form_bounds op hop
  have HF := Lib.hid (fun W => FormOf_any (op : Int) W)
  unfold FormTo formV formZ at HF
  rw [Int.toNat_natCast, hF0] at HF
  rw [hF0] at hbd
  obtain ⟨hc, h3, h7⟩ := hbd
  simp only at hc h3 h7
  subst hl
  clear hF0
  have HH := Lib.hid (headI c f3 d a b hc h3 hd ha hb)
  have hHl := headN_lt c f3 d a b hc h3 hd ha hb
  obtain ⟨H, hH⟩ : ∃ H, H = headN c f3 d a b := ⟨_, rfl⟩
  rw [← hH] at HH hHl
  have HHe := Lib.hid hH
  clear hH
  have hq0 : bitI n 0 5 < 32 := bitI_lt n 0 5
  have hq1 : bitI n 5 7 < 128 := bitI_lt n 5 7
  go_enter Tryd.func53, Tryd.ntmps53
  go_wp2_with fail
  refine Calls.mono (HF.out _) ?_
  rintro e w1 ⟨rfl, hB1⟩
  have hB0 : Below w.heap.size w (w.alloc (.cells #[.int .i64 op, .int .i64 d, .int .i64 a, .int .i64 b, .int .i64 n] 32)) := form1 w _
  have hBw := hB0.trans (hB1.mono hB0.size)
  have hb1 : w1.heap[w.heap.size]? = some (.cells #[.int .i64 op, .int .i64 d, .int .i64 a, .int .i64 b, .int .i64 n] 32 (0, 0)) := (hB1.block _ (by rw [World.size_alloc]; omega)).trans (heap_alloc_new w _)
  have hz : w.heap.size < w1.heap.size := by have := hB1.size; rw [World.size_alloc] at this; omega
  have x1 : w1.cell? ⟨w.heap.size, 1, none⟩ = some (.int .i64 d) := (obj_cell hb1 1).trans rfl
  have x2 : w1.cell? ⟨w.heap.size, 2, none⟩ = some (.int .i64 a) := (obj_cell hb1 2).trans rfl
  have x3 : w1.cell? ⟨w.heap.size, 3, none⟩ = some (.int .i64 b) := (obj_cell hb1 3).trans rfl
  have x4 : w1.cell? ⟨w.heap.size, 4, none⟩ = some (.int .i64 n) := (obj_cell hb1 4).trans rfl
  clear hb1 hB0
  go_wp2
  go_quiet ((first
    | (go_at_call 88; (with_reducible exact Calls.quiet_of_same (rbits_0_5 n _)))
    | (go_at_call 88; (with_reducible exact Calls.quiet_of_same (rbits_5_7 n _)))))
  go_wp2
  go_ret
  refine ⟨congrArg (fun z => Ending.returned (Value.int IntKind.u32 z)) ?_, ?_⟩
  · rw [HH.out]
    unfold rwordN
    rw [← HHe.out]
    simp only [Nat.reduceEqDiff, if_true, if_false, or_self]
    rw [orN _ (bitI n 0 5 * 128) hHl (by omega) _ _ rfl (by omega), orN _ (bitI n 5 7 * 33554432) (or_lt32 hHl (by omega)) (by omega) _ _ rfl (by omega)]
  · first | exact hBw.alloc hBw.size _ | exact bdrewN (hBw.alloc hBw.size _) _
set_option maxRecDepth 20000 in
set_option maxHeartbeats 4000000 in
theorem rword_66 (op d a b : Nat) (n : Int) (hop : op < 66) (hd : d < 32) (ha : a < 32) (hb : b < 32) (l c f3 f7 : Nat) (hF0 : formR op = (l, c, f3, f7)) (hl : l = 66) (w : World) :
    Calls Tryd.prog 53 #[.agg #[.int .i64 (op : Int), .int .i64 (d : Int), .int .i64 (a : Int), .int .i64 (b : Int), .int .i64 n]] w (WordTo l c f3 f7 d a b n w) := by
  have hbd := form_bounds op hop
  have HF := Lib.hid (fun W => FormOf_any (op : Int) W)
  unfold FormTo formV formZ at HF
  rw [Int.toNat_natCast, hF0] at HF
  rw [hF0] at hbd
  obtain ⟨hc, h3, h7⟩ := hbd
  simp only at hc h3 h7
  subst hl
  clear hF0
  have HH := Lib.hid (headI c f3 d a b hc h3 hd ha hb)
  have hHl := headN_lt c f3 d a b hc h3 hd ha hb
  obtain ⟨H, hH⟩ : ∃ H, H = headN c f3 d a b := ⟨_, rfl⟩
  rw [← hH] at HH hHl
  have HHe := Lib.hid hH
  clear hH
  have hq0 : bitI n 11 1 < 2 := bitI_lt n 11 1
  have hq1 : bitI n 1 4 < 16 := bitI_lt n 1 4
  have hq2 : bitI n 5 6 < 64 := bitI_lt n 5 6
  have hq3 : bitI n 12 1 < 2 := bitI_lt n 12 1
  go_enter Tryd.func53, Tryd.ntmps53
  go_wp2_with fail
  refine Calls.mono (HF.out _) ?_
  rintro e w1 ⟨rfl, hB1⟩
  have hB0 : Below w.heap.size w (w.alloc (.cells #[.int .i64 op, .int .i64 d, .int .i64 a, .int .i64 b, .int .i64 n] 32)) := form1 w _
  have hBw := hB0.trans (hB1.mono hB0.size)
  have hb1 : w1.heap[w.heap.size]? = some (.cells #[.int .i64 op, .int .i64 d, .int .i64 a, .int .i64 b, .int .i64 n] 32 (0, 0)) := (hB1.block _ (by rw [World.size_alloc]; omega)).trans (heap_alloc_new w _)
  have hz : w.heap.size < w1.heap.size := by have := hB1.size; rw [World.size_alloc] at this; omega
  have x1 : w1.cell? ⟨w.heap.size, 1, none⟩ = some (.int .i64 d) := (obj_cell hb1 1).trans rfl
  have x2 : w1.cell? ⟨w.heap.size, 2, none⟩ = some (.int .i64 a) := (obj_cell hb1 2).trans rfl
  have x3 : w1.cell? ⟨w.heap.size, 3, none⟩ = some (.int .i64 b) := (obj_cell hb1 3).trans rfl
  have x4 : w1.cell? ⟨w.heap.size, 4, none⟩ = some (.int .i64 n) := (obj_cell hb1 4).trans rfl
  clear hb1 hB0
  go_wp2
  go_quiet ((first
    | (go_at_call 88; (with_reducible exact Calls.quiet_of_same (rbits_11_1 n _)))
    | (go_at_call 88; (with_reducible exact Calls.quiet_of_same (rbits_1_4 n _)))
    | (go_at_call 88; (with_reducible exact Calls.quiet_of_same (rbits_5_6 n _)))
    | (go_at_call 88; (with_reducible exact Calls.quiet_of_same (rbits_12_1 n _)))))
  go_wp2
  go_ret
  refine ⟨congrArg (fun z => Ending.returned (Value.int IntKind.u32 z)) ?_, ?_⟩
  · rw [HH.out]
    unfold rwordN
    rw [← HHe.out]
    simp only [Nat.reduceEqDiff, if_true, if_false, or_self]
    rw [orN _ (bitI n 11 1 * 128) hHl (by omega) _ _ rfl (by omega), orN _ (bitI n 1 4 * 256) (or_lt32 hHl (by omega)) (by omega) _ _ rfl (by omega), orN _ (bitI n 5 6 * 33554432) (or_lt32 (or_lt32 hHl (by omega)) (by omega)) (by omega) _ _ rfl (by omega), orN _ (bitI n 12 1 * 2147483648) (or_lt32 (or_lt32 (or_lt32 hHl (by omega)) (by omega)) (by omega)) (by omega) _ _ rfl (by omega)]
  · first | exact hBw.alloc hBw.size _ | exact bdrewN (hBw.alloc hBw.size _) _
set_option maxRecDepth 20000 in
set_option maxHeartbeats 4000000 in
theorem rword_85 (op d a b : Nat) (n : Int) (hop : op < 66) (hd : d < 32) (ha : a < 32) (hb : b < 32) (l c f3 f7 : Nat) (hF0 : formR op = (l, c, f3, f7)) (hl : l = 85) (w : World) :
    Calls Tryd.prog 53 #[.agg #[.int .i64 (op : Int), .int .i64 (d : Int), .int .i64 (a : Int), .int .i64 (b : Int), .int .i64 n]] w (WordTo l c f3 f7 d a b n w) := by
  have hbd := form_bounds op hop
  have HF := Lib.hid (fun W => FormOf_any (op : Int) W)
  unfold FormTo formV formZ at HF
  rw [Int.toNat_natCast, hF0] at HF
  rw [hF0] at hbd
  obtain ⟨hc, h3, h7⟩ := hbd
  simp only at hc h3 h7
  subst hl
  clear hF0
  have HH := Lib.hid (headI c f3 d a b hc h3 hd ha hb)
  have hHl := headN_lt c f3 d a b hc h3 hd ha hb
  obtain ⟨H, hH⟩ : ∃ H, H = headN c f3 d a b := ⟨_, rfl⟩
  rw [← hH] at HH hHl
  have HHe := Lib.hid hH
  clear hH
  have hq0 : bitI n 0 20 < 1048576 := bitI_lt n 0 20
  go_enter Tryd.func53, Tryd.ntmps53
  go_wp2_with fail
  refine Calls.mono (HF.out _) ?_
  rintro e w1 ⟨rfl, hB1⟩
  have hB0 : Below w.heap.size w (w.alloc (.cells #[.int .i64 op, .int .i64 d, .int .i64 a, .int .i64 b, .int .i64 n] 32)) := form1 w _
  have hBw := hB0.trans (hB1.mono hB0.size)
  have hb1 : w1.heap[w.heap.size]? = some (.cells #[.int .i64 op, .int .i64 d, .int .i64 a, .int .i64 b, .int .i64 n] 32 (0, 0)) := (hB1.block _ (by rw [World.size_alloc]; omega)).trans (heap_alloc_new w _)
  have hz : w.heap.size < w1.heap.size := by have := hB1.size; rw [World.size_alloc] at this; omega
  have x1 : w1.cell? ⟨w.heap.size, 1, none⟩ = some (.int .i64 d) := (obj_cell hb1 1).trans rfl
  have x2 : w1.cell? ⟨w.heap.size, 2, none⟩ = some (.int .i64 a) := (obj_cell hb1 2).trans rfl
  have x3 : w1.cell? ⟨w.heap.size, 3, none⟩ = some (.int .i64 b) := (obj_cell hb1 3).trans rfl
  have x4 : w1.cell? ⟨w.heap.size, 4, none⟩ = some (.int .i64 n) := (obj_cell hb1 4).trans rfl
  clear hb1 hB0
  go_wp2_with (first
    | (go_at_call 88; (with_reducible refine (rbits_0_20 n _).mono ?_); rintro e w' ⟨rfl, rfl⟩))
  go_ret
  refine ⟨congrArg (fun z => Ending.returned (Value.int IntKind.u32 z)) ?_, ?_⟩
  · rw [HH.out]
    unfold rwordN
    rw [← HHe.out]
    simp only [Nat.reduceEqDiff, if_true, if_false, or_self]
    rw [orN _ (bitI n 0 20 * 4096) hHl (by omega) _ _ rfl (by omega)]
  · first | exact hBw.alloc hBw.size _ | exact bdrewN (hBw.alloc hBw.size _) _
set_option maxRecDepth 20000 in
set_option maxHeartbeats 4000000 in
theorem rword_74 (op d a b : Nat) (n : Int) (hop : op < 66) (hd : d < 32) (ha : a < 32) (hb : b < 32) (l c f3 f7 : Nat) (hF0 : formR op = (l, c, f3, f7)) (hl : l = 74) (w : World) :
    Calls Tryd.prog 53 #[.agg #[.int .i64 (op : Int), .int .i64 (d : Int), .int .i64 (a : Int), .int .i64 (b : Int), .int .i64 n]] w (WordTo l c f3 f7 d a b n w) := by
  have hbd := form_bounds op hop
  have HF := Lib.hid (fun W => FormOf_any (op : Int) W)
  unfold FormTo formV formZ at HF
  rw [Int.toNat_natCast, hF0] at HF
  rw [hF0] at hbd
  obtain ⟨hc, h3, h7⟩ := hbd
  simp only at hc h3 h7
  subst hl
  clear hF0
  have HH := Lib.hid (headI c f3 d a b hc h3 hd ha hb)
  have hHl := headN_lt c f3 d a b hc h3 hd ha hb
  obtain ⟨H, hH⟩ : ∃ H, H = headN c f3 d a b := ⟨_, rfl⟩
  rw [← hH] at HH hHl
  have HHe := Lib.hid hH
  clear hH
  have hq0 : bitI n 12 8 < 256 := bitI_lt n 12 8
  have hq1 : bitI n 11 1 < 2 := bitI_lt n 11 1
  have hq2 : bitI n 1 10 < 1024 := bitI_lt n 1 10
  have hq3 : bitI n 20 1 < 2 := bitI_lt n 20 1
  go_enter Tryd.func53, Tryd.ntmps53
  go_wp2_with fail
  refine Calls.mono (HF.out _) ?_
  rintro e w1 ⟨rfl, hB1⟩
  have hB0 : Below w.heap.size w (w.alloc (.cells #[.int .i64 op, .int .i64 d, .int .i64 a, .int .i64 b, .int .i64 n] 32)) := form1 w _
  have hBw := hB0.trans (hB1.mono hB0.size)
  have hb1 : w1.heap[w.heap.size]? = some (.cells #[.int .i64 op, .int .i64 d, .int .i64 a, .int .i64 b, .int .i64 n] 32 (0, 0)) := (hB1.block _ (by rw [World.size_alloc]; omega)).trans (heap_alloc_new w _)
  have hz : w.heap.size < w1.heap.size := by have := hB1.size; rw [World.size_alloc] at this; omega
  have x1 : w1.cell? ⟨w.heap.size, 1, none⟩ = some (.int .i64 d) := (obj_cell hb1 1).trans rfl
  have x2 : w1.cell? ⟨w.heap.size, 2, none⟩ = some (.int .i64 a) := (obj_cell hb1 2).trans rfl
  have x3 : w1.cell? ⟨w.heap.size, 3, none⟩ = some (.int .i64 b) := (obj_cell hb1 3).trans rfl
  have x4 : w1.cell? ⟨w.heap.size, 4, none⟩ = some (.int .i64 n) := (obj_cell hb1 4).trans rfl
  clear hb1 hB0
  go_wp2
  go_quiet ((first
    | (go_at_call 88; (with_reducible exact Calls.quiet_of_same (rbits_12_8 n _)))
    | (go_at_call 88; (with_reducible exact Calls.quiet_of_same (rbits_11_1 n _)))
    | (go_at_call 88; (with_reducible exact Calls.quiet_of_same (rbits_1_10 n _)))
    | (go_at_call 88; (with_reducible exact Calls.quiet_of_same (rbits_20_1 n _)))))
  go_wp2
  go_ret
  refine ⟨congrArg (fun z => Ending.returned (Value.int IntKind.u32 z)) ?_, ?_⟩
  · rw [HH.out]
    unfold rwordN
    rw [← HHe.out]
    simp only [Nat.reduceEqDiff, if_true, if_false, or_self]
    rw [orN _ (bitI n 12 8 * 4096) hHl (by omega) _ _ rfl (by omega), orN _ (bitI n 11 1 * 1048576) (or_lt32 hHl (by omega)) (by omega) _ _ rfl (by omega), orN _ (bitI n 1 10 * 2097152) (or_lt32 (or_lt32 hHl (by omega)) (by omega)) (by omega) _ _ rfl (by omega), orN _ (bitI n 20 1 * 2147483648) (or_lt32 (or_lt32 (or_lt32 hHl (by omega)) (by omega)) (by omega)) (by omega) _ _ rfl (by omega)]
  · first | exact hBw.alloc hBw.size _ | exact bdrewN (hBw.alloc hBw.size _) _
set_option maxRecDepth 20000 in
set_option maxHeartbeats 4000000 in
theorem rword_78 (op d a b : Nat) (n : Int) (hop : op < 66) (hd : d < 32) (ha : a < 32) (hb : b < 32) (l c f3 f7 : Nat) (hF0 : formR op = (l, c, f3, f7)) (hl : l = 78) (w : World) :
    Calls Tryd.prog 53 #[.agg #[.int .i64 (op : Int), .int .i64 (d : Int), .int .i64 (a : Int), .int .i64 (b : Int), .int .i64 n]] w (WordTo l c f3 f7 d a b n w) := by
  have hbd := form_bounds op hop
  have HF := Lib.hid (fun W => FormOf_any (op : Int) W)
  unfold FormTo formV formZ at HF
  rw [Int.toNat_natCast, hF0] at HF
  rw [hF0] at hbd
  obtain ⟨hc, h3, h7⟩ := hbd
  simp only at hc h3 h7
  subst hl
  clear hF0
  have HH := Lib.hid (headI c f3 d a b hc h3 hd ha hb)
  have hHl := headN_lt c f3 d a b hc h3 hd ha hb
  obtain ⟨H, hH⟩ : ∃ H, H = headN c f3 d a b := ⟨_, rfl⟩
  rw [← hH] at HH hHl
  have HHe := Lib.hid hH
  clear hH
  go_enter Tryd.func53, Tryd.ntmps53
  go_wp2_with fail
  refine Calls.mono (HF.out _) ?_
  rintro e w1 ⟨rfl, hB1⟩
  have hB0 : Below w.heap.size w (w.alloc (.cells #[.int .i64 op, .int .i64 d, .int .i64 a, .int .i64 b, .int .i64 n] 32)) := form1 w _
  have hBw := hB0.trans (hB1.mono hB0.size)
  have hb1 : w1.heap[w.heap.size]? = some (.cells #[.int .i64 op, .int .i64 d, .int .i64 a, .int .i64 b, .int .i64 n] 32 (0, 0)) := (hB1.block _ (by rw [World.size_alloc]; omega)).trans (heap_alloc_new w _)
  have hz : w.heap.size < w1.heap.size := by have := hB1.size; rw [World.size_alloc] at this; omega
  have x1 : w1.cell? ⟨w.heap.size, 1, none⟩ = some (.int .i64 d) := (obj_cell hb1 1).trans rfl
  have x2 : w1.cell? ⟨w.heap.size, 2, none⟩ = some (.int .i64 a) := (obj_cell hb1 2).trans rfl
  have x3 : w1.cell? ⟨w.heap.size, 3, none⟩ = some (.int .i64 b) := (obj_cell hb1 3).trans rfl
  have x4 : w1.cell? ⟨w.heap.size, 4, none⟩ = some (.int .i64 n) := (obj_cell hb1 4).trans rfl
  clear hb1 hB0
  go_wp2
  go_ret
  refine ⟨congrArg (fun z => Ending.returned (Value.int IntKind.u32 z)) ?_, ?_⟩
  · rw [HH.out]
    unfold rwordN
    rw [← HHe.out]
    rfl
  · first | exact hBw.alloc hBw.size _ | exact bdrewN (hBw.alloc hBw.size _) _
set_option maxRecDepth 20000 in
set_option maxHeartbeats 4000000 in
theorem rword_0 (op d a b : Nat) (n : Int) (hop : op < 66) (hd : d < 32) (ha : a < 32) (hb : b < 32) (l c f3 f7 : Nat) (hF0 : formR op = (l, c, f3, f7)) (hl : l = 0) (w : World) :
    Calls Tryd.prog 53 #[.agg #[.int .i64 (op : Int), .int .i64 (d : Int), .int .i64 (a : Int), .int .i64 (b : Int), .int .i64 n]] w (WordTo l c f3 f7 d a b n w) := by
  have hbd := form_bounds op hop
  have HF := Lib.hid (fun W => FormOf_any (op : Int) W)
  unfold FormTo formV formZ at HF
  rw [Int.toNat_natCast, hF0] at HF
  rw [hF0] at hbd
  obtain ⟨hc, h3, h7⟩ := hbd
  simp only at hc h3 h7
  subst hl
  clear hF0
  have HH := Lib.hid (headI c f3 d a b hc h3 hd ha hb)
  have hHl := headN_lt c f3 d a b hc h3 hd ha hb
  obtain ⟨H, hH⟩ : ∃ H, H = headN c f3 d a b := ⟨_, rfl⟩
  rw [← hH] at HH hHl
  have HHe := Lib.hid hH
  clear hH
  go_enter Tryd.func53, Tryd.ntmps53
  go_wp2_with fail
  refine Calls.mono (HF.out _) ?_
  rintro e w1 ⟨rfl, hB1⟩
  have hB0 : Below w.heap.size w (w.alloc (.cells #[.int .i64 op, .int .i64 d, .int .i64 a, .int .i64 b, .int .i64 n] 32)) := form1 w _
  have hBw := hB0.trans (hB1.mono hB0.size)
  have hb1 : w1.heap[w.heap.size]? = some (.cells #[.int .i64 op, .int .i64 d, .int .i64 a, .int .i64 b, .int .i64 n] 32 (0, 0)) := (hB1.block _ (by rw [World.size_alloc]; omega)).trans (heap_alloc_new w _)
  have hz : w.heap.size < w1.heap.size := by have := hB1.size; rw [World.size_alloc] at this; omega
  have x1 : w1.cell? ⟨w.heap.size, 1, none⟩ = some (.int .i64 d) := (obj_cell hb1 1).trans rfl
  have x2 : w1.cell? ⟨w.heap.size, 2, none⟩ = some (.int .i64 a) := (obj_cell hb1 2).trans rfl
  have x3 : w1.cell? ⟨w.heap.size, 3, none⟩ = some (.int .i64 b) := (obj_cell hb1 3).trans rfl
  have x4 : w1.cell? ⟨w.heap.size, 4, none⟩ = some (.int .i64 n) := (obj_cell hb1 4).trans rfl
  clear hb1 hB0
  go_wp2
  go_ret
  refine ⟨congrArg (fun z => Ending.returned (Value.int IntKind.u32 z)) ?_, ?_⟩
  · rw [HH.out]
    unfold rwordN
    rw [← HHe.out]
    rfl
  · first | exact hBw.alloc hBw.size _ | exact bdrewN (hBw.alloc hBw.size _) _
theorem rword_any (op d a b : Nat) (n : Int) (hop : op < 66) (hd : d < 32) (ha : a < 32) (hb : b < 32) (w : World) :
    Calls Tryd.prog 53 #[.agg #[.int .i64 (op : Int), .int .i64 (d : Int), .int .i64 (a : Int), .int .i64 (b : Int), .int .i64 n]] w (WordTo (formR op).1 (formR op).2.1 (formR op).2.2.1 (formR op).2.2.2 d a b n w) := by
  have hl : (formR op).1 ∈ lettersL := formR_letter _
  generalize hF : formR op = F at *
  obtain ⟨l, c, f3, f7⟩ := F
  simp only [lettersL, List.mem_cons, List.not_mem_nil, or_false] at hl
  rcases hl with h | h | h | h | h | h | h | h | h | h
  · exact rword_0 op d a b n hop hd ha hb l c f3 f7 hF h w
  · exact rword_85 op d a b n hop hd ha hb l c f3 f7 hF h w
  · exact rword_74 op d a b n hop hd ha hb l c f3 f7 hF h w
  · exact rword_73 op d a b n hop hd ha hb l c f3 f7 hF h w
  · exact rword_66 op d a b n hop hd ha hb l c f3 f7 hF h w
  · exact rword_83 op d a b n hop hd ha hb l c f3 f7 hF h w
  · exact rword_72 op d a b n hop hd ha hb l c f3 f7 hF h w
  · exact rword_104 op d a b n hop hd ha hb l c f3 f7 hF h w
  · exact rword_82 op d a b n hop hd ha hb l c f3 f7 hF h w
  · exact rword_78 op d a b n hop hd ha hb l c f3 f7 hF h w
end Go.Proofs
