/- patinaref01.guess: what a word would be as an operation's instruction. -/
import Derived.Test.YtemngapfnkokiaaDoorGuess
import Derived.Test.YtemngapfnkokiaaDoorWordP
import Derived.Test.YtemngapfnkokiaaDoorDec
namespace Go.Pat
open Go Go.RowKit
theorem sgn_mod (n c : Nat) : sgn (n % 2 ^ c) c = sgn n c := by unfold sgn; rw [Nat.mod_mod]
theorem orI (a b k : Nat) (ha : a < 2 ^ k) (hb : a + b * 2 ^ k < 4294967296) (z : Int) (hz : z = ((b * 2 ^ k : Nat) : Int)) : bits .or .u32 (a : Int) z = ((a + b * 2 ^ k : Nat) : Int) := by
  rw [hz, bits_or_u32 _ _ (by omega) (by omega), or_add a b k ha]
end Go.Pat
namespace Go.Proofs
open Go Go.RowKit Go.Pat
theorem gr_ret (tmps : Array Value) (Wp : World) (b : Nat) (hb : Wp.heap[b]? = some (.cells z5 32 (0, 0))) (v0 v1 v2 v3 v4 : Value) (o1 o2 : Obj) (Post : Ending → World → Prop) (h2 : tmps[4]?.getD undef = .pointer (some ⟨b, 0, none⟩))
    (h : Post (.returned (.agg #[v0, v1, v2, v3, v4])) (((((((Wp.setCell ⟨b, 0, none⟩ v0).setCell ⟨b, 1, none⟩ v1).setCell ⟨b, 2, none⟩ v2).setCell ⟨b, 3, none⟩ v3).setCell ⟨b, 4, none⟩ v4).alloc o1).alloc o2)) :
    bodyPost Tryd.prog Tryd.f89 Post Exit.ret ⟨tmps, []⟩ (((((((Wp.setCell ⟨b, 0, none⟩ v0).setCell ⟨b, 1, none⟩ v1).setCell ⟨b, 2, none⟩ v2).setCell ⟨b, 3, none⟩ v3).setCell ⟨b, 4, none⟩ v4).alloc o1).alloc o2) := by
  have hX := obj_set (obj_set (obj_set (obj_set (obj_set hb 0 v0) 1 v1) 2 v2) 3 v3) 4 v4
  have hc : ((((z5.setIfInBounds 0 v0).setIfInBounds 1 v1).setIfInBounds 2 v2).setIfInBounds 3 v3).setIfInBounds 4 v4 = #[v0, v1, v2, v3, v4] := by simp [z5]
  rw [hc] at hX
  exact bodyPost_ret (results_cell_row rfl _ _ b 32 #[v0, v1, v2, v3, v4] (0, 0) _ (by simpa using h2) (obj_alloc (obj_alloc hX)) Tryd.underlying32 rfl Tryd_sizeIns) rfl h
theorem below5 {a Wp : World} (hB : Below a.heap.size a Wp) (b : Nat) (hb : a.heap.size ≤ b) (v0 v1 v2 v3 v4 : Value) (o1 o2 : Obj) :
    Below a.heap.size a (((((((Wp.setCell ⟨b, 0, none⟩ v0).setCell ⟨b, 1, none⟩ v1).setCell ⟨b, 2, none⟩ v2).setCell ⟨b, 3, none⟩ v3).setCell ⟨b, 4, none⟩ v4).alloc o1).alloc o2) := by
  have hq := bset (bset (bset (bset (bset hB ⟨b, 0, none⟩ hb v0) ⟨b, 1, none⟩ hb v1) ⟨b, 2, none⟩ hb v2) ⟨b, 3, none⟩ hb v3) ⟨b, 4, none⟩ hb v4
  exact (hq.alloc hq.size _).alloc (hq.alloc hq.size _).size _
def GuessTo (op x : Nat) (w : World) (e : Ending) (w' : World) : Prop := e = .returned (.agg (gIns op x).cells) ∧ Below w.heap.size w w'
theorem gz_S (x : Nat) (hx : x < 4294967296) : bits .or .u32 ((x : Int) / 128 % 32) ((x : Int) / 33554432 % 128 * 32) = ((x / 128 % 32 + x / 33554432 * 32 : Nat) : Int) :=
  orI (x / 128 % 32) (x / 33554432) 5 (by omega) (by omega) _ (by omega)
theorem gz_B (x : Nat) (hx : x < 4294967296) : bits .or .u32 (bits .or .u32 (bits .or .u32 ((x : Int) / 256 % 16 * 2) ((x : Int) / 33554432 % 64 * 32)) ((x : Int) / 128 % 2 * 2048)) ((x : Int) / 2147483648 % 2 * 4096) = ((x / 256 % 16 * 2 + x / 33554432 % 64 * 32 + x / 128 % 2 * 2048 + x / 2147483648 * 4096 : Nat) : Int) := by
  have h1 := orI (x / 256 % 16 * 2) (x / 33554432 % 64) 5 (by omega) (by omega) ((x : Int) / 33554432 % 64 * 32) (by omega)
  have h2 := orI (x / 256 % 16 * 2 + x / 33554432 % 64 * 2 ^ 5) (x / 128 % 2) 11 (by omega) (by omega) ((x : Int) / 128 % 2 * 2048) (by omega)
  have h3 := orI (x / 256 % 16 * 2 + x / 33554432 % 64 * 2 ^ 5 + x / 128 % 2 * 2 ^ 11) (x / 2147483648) 12 (by omega) (by omega) ((x : Int) / 2147483648 % 2 * 4096) (by omega)
  rw [show ((x : Int) / 256 % 16 * 2) = ((x / 256 % 16 * 2 : Nat) : Int) by omega, h1, h2, h3]
theorem gz_J (x : Nat) (hx : x < 4294967296) : bits .or .u32 (bits .or .u32 (bits .or .u32 ((x : Int) / 2097152 % 1024 * 2) ((x : Int) / 1048576 % 2 * 2048)) ((x : Int) / 4096 % 256 * 4096)) ((x : Int) / 2147483648 % 2 * 1048576) = ((x / 2097152 % 1024 * 2 + x / 1048576 % 2 * 2048 + x / 4096 % 256 * 4096 + x / 2147483648 * 1048576 : Nat) : Int) := by
  have h1 := orI (x / 2097152 % 1024 * 2) (x / 1048576 % 2) 11 (by omega) (by omega) ((x : Int) / 1048576 % 2 * 2048) (by omega)
  have h2 := orI (x / 2097152 % 1024 * 2 + x / 1048576 % 2 * 2 ^ 11) (x / 4096 % 256) 12 (by omega) (by omega) ((x : Int) / 4096 % 256 * 4096) (by omega)
  have h3 := orI (x / 2097152 % 1024 * 2 + x / 1048576 % 2 * 2 ^ 11 + x / 4096 % 256 * 2 ^ 12) (x / 2147483648) 20 (by omega) (by omega) ((x : Int) / 2147483648 % 2 * 1048576) (by omega)
  rw [show ((x : Int) / 2097152 % 1024 * 2) = ((x / 2097152 % 1024 * 2 : Nat) : Int) by omega, h1, h2, h3]
set_option maxRecDepth 20000 in
set_option maxHeartbeats 4000000 in
theorem guess_0 (op x : Nat) (_hop : op < 66) (_hx : x < 4294967296) (hl : (formR op).1 = 0) (w : World) : Calls Tryd.prog 89 #[.int .i64 (op : Int), .int .u32 (x : Int)] w (GuessTo op x w) := by
  have HV := Lib.hid (show (gIns op x).cells = #[.int .i64 (op : Int), .int .i64 0, .int .i64 0, .int .i64 0, .int .i64 0] by unfold gIns; rw [hl]; simp [Ins.cells, hasD1, has11, has21, gImm])
  have HF := Lib.hid (fun W => FormOf_any (op : Int) W)
  have HH := Lib.hid (fun W => r1Has_any 0 (by decide) W)
  unfold FormTo formV formZ at HF
  unfold HasTo at HH
  rw [Int.toNat_natCast] at HF
  generalize formR op = F at *
  obtain ⟨l, c, f3, f7⟩ := F
  obtain rfl : l = 0 := hl
  have hb0 : (w.alloc (.cells z5 32)).heap[w.heap.size]? = some (.cells z5 32 (0, 0)) := heap_alloc_new w _
  go_enter Tryd.func89, Tryd.ntmps89
  go_wp2_with fail
  refine Calls.mono (HF.out _) ?_
  rintro e w1 ⟨rfl, hB1⟩
  have hB0 : Below w.heap.size w (w.alloc (.cells z5 32)) := form1 w _
  have hBw := hB0.trans (hB1.mono hB0.size)
  have hb1 : w1.heap[w.heap.size]? = some (.cells z5 32 (0, 0)) := (hB1.block _ (by rw [World.size_alloc]; omega)).trans hb0
  have hz : w.heap.size < w1.heap.size := by have := hB1.size; rw [World.size_alloc] at this; omega
  have x0 : w1.cell? ⟨w.heap.size, 0, none⟩ = some (.int .i64 0) := (obj_cell hb1 0).trans rfl
  have x1 : w1.cell? ⟨w.heap.size, 1, none⟩ = some (.int .i64 0) := (obj_cell hb1 1).trans rfl
  have x2 : w1.cell? ⟨w.heap.size, 2, none⟩ = some (.int .i64 0) := (obj_cell hb1 2).trans rfl
  have x3 : w1.cell? ⟨w.heap.size, 3, none⟩ = some (.int .i64 0) := (obj_cell hb1 3).trans rfl
  have x4 : w1.cell? ⟨w.heap.size, 4, none⟩ = some (.int .i64 0) := (obj_cell hb1 4).trans rfl
  have y0 : w1.frozen? ⟨w.heap.size, 0, none⟩ = false := obj_frozen hb1 0
  have y1 : w1.frozen? ⟨w.heap.size, 1, none⟩ = false := obj_frozen hb1 1
  have y2 : w1.frozen? ⟨w.heap.size, 2, none⟩ = false := obj_frozen hb1 2
  have y3 : w1.frozen? ⟨w.heap.size, 3, none⟩ = false := obj_frozen hb1 3
  have y4 : w1.frozen? ⟨w.heap.size, 4, none⟩ = false := obj_frozen hb1 4
  have HZ := Lib.hid hb1
  clear hb1 hb0 hB0
  go_wp2_with (first
    | (go_at_call 39; refine (HH.out _).mono ?_; rintro e w' ⟨rfl, rfl⟩)
    | fail)
  refine gr_ret _ _ w.heap.size HZ.out _ _ _ _ _ _ _ _ (by rfl) ⟨by rw [HV.out] <;> (rfl), below5 hBw _ (Nat.le_refl _) _ _ _ _ _ _ _⟩
set_option maxRecDepth 20000 in
set_option maxHeartbeats 4000000 in
theorem guess_78 (op x : Nat) (_hop : op < 66) (_hx : x < 4294967296) (hl : (formR op).1 = 78) (w : World) : Calls Tryd.prog 89 #[.int .i64 (op : Int), .int .u32 (x : Int)] w (GuessTo op x w) := by
  have HV := Lib.hid (show (gIns op x).cells = #[.int .i64 (op : Int), .int .i64 0, .int .i64 0, .int .i64 0, .int .i64 0] by unfold gIns; rw [hl]; simp [Ins.cells, hasD1, has11, has21, gImm])
  have HF := Lib.hid (fun W => FormOf_any (op : Int) W)
  have HH := Lib.hid (fun W => r1Has_any 78 (by decide) W)
  unfold FormTo formV formZ at HF
  unfold HasTo at HH
  rw [Int.toNat_natCast] at HF
  generalize formR op = F at *
  obtain ⟨l, c, f3, f7⟩ := F
  obtain rfl : l = 78 := hl
  have hb0 : (w.alloc (.cells z5 32)).heap[w.heap.size]? = some (.cells z5 32 (0, 0)) := heap_alloc_new w _
  go_enter Tryd.func89, Tryd.ntmps89
  go_wp2_with fail
  refine Calls.mono (HF.out _) ?_
  rintro e w1 ⟨rfl, hB1⟩
  have hB0 : Below w.heap.size w (w.alloc (.cells z5 32)) := form1 w _
  have hBw := hB0.trans (hB1.mono hB0.size)
  have hb1 : w1.heap[w.heap.size]? = some (.cells z5 32 (0, 0)) := (hB1.block _ (by rw [World.size_alloc]; omega)).trans hb0
  have hz : w.heap.size < w1.heap.size := by have := hB1.size; rw [World.size_alloc] at this; omega
  have x0 : w1.cell? ⟨w.heap.size, 0, none⟩ = some (.int .i64 0) := (obj_cell hb1 0).trans rfl
  have x1 : w1.cell? ⟨w.heap.size, 1, none⟩ = some (.int .i64 0) := (obj_cell hb1 1).trans rfl
  have x2 : w1.cell? ⟨w.heap.size, 2, none⟩ = some (.int .i64 0) := (obj_cell hb1 2).trans rfl
  have x3 : w1.cell? ⟨w.heap.size, 3, none⟩ = some (.int .i64 0) := (obj_cell hb1 3).trans rfl
  have x4 : w1.cell? ⟨w.heap.size, 4, none⟩ = some (.int .i64 0) := (obj_cell hb1 4).trans rfl
  have y0 : w1.frozen? ⟨w.heap.size, 0, none⟩ = false := obj_frozen hb1 0
  have y1 : w1.frozen? ⟨w.heap.size, 1, none⟩ = false := obj_frozen hb1 1
  have y2 : w1.frozen? ⟨w.heap.size, 2, none⟩ = false := obj_frozen hb1 2
  have y3 : w1.frozen? ⟨w.heap.size, 3, none⟩ = false := obj_frozen hb1 3
  have y4 : w1.frozen? ⟨w.heap.size, 4, none⟩ = false := obj_frozen hb1 4
  have HZ := Lib.hid hb1
  clear hb1 hb0 hB0
  go_wp2_with (first
    | (go_at_call 39; refine (HH.out _).mono ?_; rintro e w' ⟨rfl, rfl⟩)
    | fail)
  refine gr_ret _ _ w.heap.size HZ.out _ _ _ _ _ _ _ _ (by rfl) ⟨by rw [HV.out] <;> (rfl), below5 hBw _ (Nat.le_refl _) _ _ _ _ _ _ _⟩
set_option maxRecDepth 20000 in
set_option maxHeartbeats 4000000 in
theorem guess_82 (op x : Nat) (_hop : op < 66) (hx : x < 4294967296) (hl : (formR op).1 = 82) (w : World) : Calls Tryd.prog 89 #[.int .i64 (op : Int), .int .u32 (x : Int)] w (GuessTo op x w) := by
  have HV := Lib.hid (show (gIns op x).cells = #[.int .i64 (op : Int), .int .i64 ((x / 128 % 32 : Nat) : Int), .int .i64 ((x / 32768 % 32 : Nat) : Int), .int .i64 ((x / 1048576 % 32 : Nat) : Int), .int .i64 0] by unfold gIns; rw [hl]; simp [Ins.cells, hasD1, has11, has21, gImm])
  have HF := Lib.hid (fun W => FormOf_any (op : Int) W)
  have HH := Lib.hid (fun W => r1Has_any 82 (by decide) W)
  unfold FormTo formV formZ at HF
  unfold HasTo at HH
  rw [Int.toNat_natCast] at HF
  generalize formR op = F at *
  obtain ⟨l, c, f3, f7⟩ := F
  obtain rfl : l = 82 := hl
  have hb0 : (w.alloc (.cells z5 32)).heap[w.heap.size]? = some (.cells z5 32 (0, 0)) := heap_alloc_new w _
  go_enter Tryd.func89, Tryd.ntmps89
  go_wp2_with fail
  refine Calls.mono (HF.out _) ?_
  rintro e w1 ⟨rfl, hB1⟩
  have hB0 : Below w.heap.size w (w.alloc (.cells z5 32)) := form1 w _
  have hBw := hB0.trans (hB1.mono hB0.size)
  have hb1 : w1.heap[w.heap.size]? = some (.cells z5 32 (0, 0)) := (hB1.block _ (by rw [World.size_alloc]; omega)).trans hb0
  have hz : w.heap.size < w1.heap.size := by have := hB1.size; rw [World.size_alloc] at this; omega
  have x0 : w1.cell? ⟨w.heap.size, 0, none⟩ = some (.int .i64 0) := (obj_cell hb1 0).trans rfl
  have x1 : w1.cell? ⟨w.heap.size, 1, none⟩ = some (.int .i64 0) := (obj_cell hb1 1).trans rfl
  have x2 : w1.cell? ⟨w.heap.size, 2, none⟩ = some (.int .i64 0) := (obj_cell hb1 2).trans rfl
  have x3 : w1.cell? ⟨w.heap.size, 3, none⟩ = some (.int .i64 0) := (obj_cell hb1 3).trans rfl
  have x4 : w1.cell? ⟨w.heap.size, 4, none⟩ = some (.int .i64 0) := (obj_cell hb1 4).trans rfl
  have y0 : w1.frozen? ⟨w.heap.size, 0, none⟩ = false := obj_frozen hb1 0
  have y1 : w1.frozen? ⟨w.heap.size, 1, none⟩ = false := obj_frozen hb1 1
  have y2 : w1.frozen? ⟨w.heap.size, 2, none⟩ = false := obj_frozen hb1 2
  have y3 : w1.frozen? ⟨w.heap.size, 3, none⟩ = false := obj_frozen hb1 3
  have y4 : w1.frozen? ⟨w.heap.size, 4, none⟩ = false := obj_frozen hb1 4
  have HZ := Lib.hid hb1
  clear hb1 hb0 hB0
  go_wp2_with (first
    | (go_at_call 39; refine (HH.out _).mono ?_; rintro e w' ⟨rfl, rfl⟩)
    | (go_at_call 119; (with_reducible refine (part_7_5 x hx _).mono ?_); rintro e w' ⟨rfl, rfl⟩)
    | (go_at_call 119; (with_reducible refine (part_15_5 x hx _).mono ?_); rintro e w' ⟨rfl, rfl⟩)
    | (go_at_call 119; (with_reducible refine (part_20_5 x hx _).mono ?_); rintro e w' ⟨rfl, rfl⟩))
  refine gr_ret _ _ w.heap.size HZ.out _ _ _ _ _ _ _ _ (by rfl) ⟨by rw [HV.out] <;> (rfl), below5 hBw _ (Nat.le_refl _) _ _ _ _ _ _ _⟩
set_option maxRecDepth 20000 in
set_option maxHeartbeats 4000000 in
theorem guess_72 (op x : Nat) (_hop : op < 66) (hx : x < 4294967296) (hl : (formR op).1 = 72) (w : World) : Calls Tryd.prog 89 #[.int .i64 (op : Int), .int .u32 (x : Int)] w (GuessTo op x w) := by
  have HV := Lib.hid (show (gIns op x).cells = #[.int .i64 (op : Int), .int .i64 ((x / 128 % 32 : Nat) : Int), .int .i64 ((x / 32768 % 32 : Nat) : Int), .int .i64 0, .int .i64 ((x / 1048576 % 64 : Nat) : Int)] by unfold gIns; rw [hl]; simp [Ins.cells, hasD1, has11, has21, gImm])
  have HF := Lib.hid (fun W => FormOf_any (op : Int) W)
  have HH := Lib.hid (fun W => r1Has_any 72 (by decide) W)
  unfold FormTo formV formZ at HF
  unfold HasTo at HH
  rw [Int.toNat_natCast] at HF
  generalize formR op = F at *
  obtain ⟨l, c, f3, f7⟩ := F
  obtain rfl : l = 72 := hl
  have hb0 : (w.alloc (.cells z5 32)).heap[w.heap.size]? = some (.cells z5 32 (0, 0)) := heap_alloc_new w _
  go_enter Tryd.func89, Tryd.ntmps89
  go_wp2_with fail
  refine Calls.mono (HF.out _) ?_
  rintro e w1 ⟨rfl, hB1⟩
  have hB0 : Below w.heap.size w (w.alloc (.cells z5 32)) := form1 w _
  have hBw := hB0.trans (hB1.mono hB0.size)
  have hb1 : w1.heap[w.heap.size]? = some (.cells z5 32 (0, 0)) := (hB1.block _ (by rw [World.size_alloc]; omega)).trans hb0
  have hz : w.heap.size < w1.heap.size := by have := hB1.size; rw [World.size_alloc] at this; omega
  have x0 : w1.cell? ⟨w.heap.size, 0, none⟩ = some (.int .i64 0) := (obj_cell hb1 0).trans rfl
  have x1 : w1.cell? ⟨w.heap.size, 1, none⟩ = some (.int .i64 0) := (obj_cell hb1 1).trans rfl
  have x2 : w1.cell? ⟨w.heap.size, 2, none⟩ = some (.int .i64 0) := (obj_cell hb1 2).trans rfl
  have x3 : w1.cell? ⟨w.heap.size, 3, none⟩ = some (.int .i64 0) := (obj_cell hb1 3).trans rfl
  have x4 : w1.cell? ⟨w.heap.size, 4, none⟩ = some (.int .i64 0) := (obj_cell hb1 4).trans rfl
  have y0 : w1.frozen? ⟨w.heap.size, 0, none⟩ = false := obj_frozen hb1 0
  have y1 : w1.frozen? ⟨w.heap.size, 1, none⟩ = false := obj_frozen hb1 1
  have y2 : w1.frozen? ⟨w.heap.size, 2, none⟩ = false := obj_frozen hb1 2
  have y3 : w1.frozen? ⟨w.heap.size, 3, none⟩ = false := obj_frozen hb1 3
  have y4 : w1.frozen? ⟨w.heap.size, 4, none⟩ = false := obj_frozen hb1 4
  have HZ := Lib.hid hb1
  clear hb1 hb0 hB0
  go_wp2_with (first
    | (go_at_call 39; refine (HH.out _).mono ?_; rintro e w' ⟨rfl, rfl⟩)
    | (go_at_call 119; (with_reducible refine (part_7_5 x hx _).mono ?_); rintro e w' ⟨rfl, rfl⟩)
    | (go_at_call 119; (with_reducible refine (part_15_5 x hx _).mono ?_); rintro e w' ⟨rfl, rfl⟩)
    | (go_at_call 119; (with_reducible refine (part_20_6 x hx _).mono ?_); rintro e w' ⟨rfl, rfl⟩))
  refine gr_ret _ _ w.heap.size HZ.out _ _ _ _ _ _ _ _ (by rfl) ⟨by rw [HV.out] <;> (rfl), below5 hBw _ (Nat.le_refl _) _ _ _ _ _ _ _⟩
set_option maxRecDepth 20000 in
set_option maxHeartbeats 4000000 in
theorem guess_104 (op x : Nat) (_hop : op < 66) (hx : x < 4294967296) (hl : (formR op).1 = 104) (w : World) : Calls Tryd.prog 89 #[.int .i64 (op : Int), .int .u32 (x : Int)] w (GuessTo op x w) := by
  have HV := Lib.hid (show (gIns op x).cells = #[.int .i64 (op : Int), .int .i64 ((x / 128 % 32 : Nat) : Int), .int .i64 ((x / 32768 % 32 : Nat) : Int), .int .i64 0, .int .i64 ((x / 1048576 % 32 : Nat) : Int)] by unfold gIns; rw [hl]; simp [Ins.cells, hasD1, has11, has21, gImm])
  have HF := Lib.hid (fun W => FormOf_any (op : Int) W)
  have HH := Lib.hid (fun W => r1Has_any 104 (by decide) W)
  unfold FormTo formV formZ at HF
  unfold HasTo at HH
  rw [Int.toNat_natCast] at HF
  generalize formR op = F at *
  obtain ⟨l, c, f3, f7⟩ := F
  obtain rfl : l = 104 := hl
  have hb0 : (w.alloc (.cells z5 32)).heap[w.heap.size]? = some (.cells z5 32 (0, 0)) := heap_alloc_new w _
  go_enter Tryd.func89, Tryd.ntmps89
  go_wp2_with fail
  refine Calls.mono (HF.out _) ?_
  rintro e w1 ⟨rfl, hB1⟩
  have hB0 : Below w.heap.size w (w.alloc (.cells z5 32)) := form1 w _
  have hBw := hB0.trans (hB1.mono hB0.size)
  have hb1 : w1.heap[w.heap.size]? = some (.cells z5 32 (0, 0)) := (hB1.block _ (by rw [World.size_alloc]; omega)).trans hb0
  have hz : w.heap.size < w1.heap.size := by have := hB1.size; rw [World.size_alloc] at this; omega
  have x0 : w1.cell? ⟨w.heap.size, 0, none⟩ = some (.int .i64 0) := (obj_cell hb1 0).trans rfl
  have x1 : w1.cell? ⟨w.heap.size, 1, none⟩ = some (.int .i64 0) := (obj_cell hb1 1).trans rfl
  have x2 : w1.cell? ⟨w.heap.size, 2, none⟩ = some (.int .i64 0) := (obj_cell hb1 2).trans rfl
  have x3 : w1.cell? ⟨w.heap.size, 3, none⟩ = some (.int .i64 0) := (obj_cell hb1 3).trans rfl
  have x4 : w1.cell? ⟨w.heap.size, 4, none⟩ = some (.int .i64 0) := (obj_cell hb1 4).trans rfl
  have y0 : w1.frozen? ⟨w.heap.size, 0, none⟩ = false := obj_frozen hb1 0
  have y1 : w1.frozen? ⟨w.heap.size, 1, none⟩ = false := obj_frozen hb1 1
  have y2 : w1.frozen? ⟨w.heap.size, 2, none⟩ = false := obj_frozen hb1 2
  have y3 : w1.frozen? ⟨w.heap.size, 3, none⟩ = false := obj_frozen hb1 3
  have y4 : w1.frozen? ⟨w.heap.size, 4, none⟩ = false := obj_frozen hb1 4
  have HZ := Lib.hid hb1
  clear hb1 hb0 hB0
  go_wp2_with (first
    | (go_at_call 39; refine (HH.out _).mono ?_; rintro e w' ⟨rfl, rfl⟩)
    | (go_at_call 119; (with_reducible refine (part_7_5 x hx _).mono ?_); rintro e w' ⟨rfl, rfl⟩)
    | (go_at_call 119; (with_reducible refine (part_15_5 x hx _).mono ?_); rintro e w' ⟨rfl, rfl⟩)
    | (go_at_call 119; (with_reducible refine (part_20_5 x hx _).mono ?_); rintro e w' ⟨rfl, rfl⟩))
  refine gr_ret _ _ w.heap.size HZ.out _ _ _ _ _ _ _ _ (by rfl) ⟨by rw [HV.out] <;> (rfl), below5 hBw _ (Nat.le_refl _) _ _ _ _ _ _ _⟩
set_option maxRecDepth 20000 in
set_option maxHeartbeats 4000000 in
theorem guess_73 (op x : Nat) (_hop : op < 66) (hx : x < 4294967296) (hl : (formR op).1 = 73) (w : World) : Calls Tryd.prog 89 #[.int .i64 (op : Int), .int .u32 (x : Int)] w (GuessTo op x w) := by
  have HV := Lib.hid (show (gIns op x).cells = #[.int .i64 (op : Int), .int .i64 ((x / 128 % 32 : Nat) : Int), .int .i64 ((x / 32768 % 32 : Nat) : Int), .int .i64 0, .int .i64 (sgn (x / 1048576) 12)] by unfold gIns; rw [hl]; simp [Ins.cells, hasD1, has11, has21, gImm])
  have HF := Lib.hid (fun W => FormOf_any (op : Int) W)
  have HH := Lib.hid (fun W => r1Has_any 73 (by decide) W)
  unfold FormTo formV formZ at HF
  unfold HasTo at HH
  rw [Int.toNat_natCast] at HF
  generalize formR op = F at *
  obtain ⟨l, c, f3, f7⟩ := F
  obtain rfl : l = 73 := hl
  have hb0 : (w.alloc (.cells z5 32)).heap[w.heap.size]? = some (.cells z5 32 (0, 0)) := heap_alloc_new w _
  go_enter Tryd.func89, Tryd.ntmps89
  go_wp2_with fail
  refine Calls.mono (HF.out _) ?_
  rintro e w1 ⟨rfl, hB1⟩
  have hB0 : Below w.heap.size w (w.alloc (.cells z5 32)) := form1 w _
  have hBw := hB0.trans (hB1.mono hB0.size)
  have hb1 : w1.heap[w.heap.size]? = some (.cells z5 32 (0, 0)) := (hB1.block _ (by rw [World.size_alloc]; omega)).trans hb0
  have hz : w.heap.size < w1.heap.size := by have := hB1.size; rw [World.size_alloc] at this; omega
  have x0 : w1.cell? ⟨w.heap.size, 0, none⟩ = some (.int .i64 0) := (obj_cell hb1 0).trans rfl
  have x1 : w1.cell? ⟨w.heap.size, 1, none⟩ = some (.int .i64 0) := (obj_cell hb1 1).trans rfl
  have x2 : w1.cell? ⟨w.heap.size, 2, none⟩ = some (.int .i64 0) := (obj_cell hb1 2).trans rfl
  have x3 : w1.cell? ⟨w.heap.size, 3, none⟩ = some (.int .i64 0) := (obj_cell hb1 3).trans rfl
  have x4 : w1.cell? ⟨w.heap.size, 4, none⟩ = some (.int .i64 0) := (obj_cell hb1 4).trans rfl
  have y0 : w1.frozen? ⟨w.heap.size, 0, none⟩ = false := obj_frozen hb1 0
  have y1 : w1.frozen? ⟨w.heap.size, 1, none⟩ = false := obj_frozen hb1 1
  have y2 : w1.frozen? ⟨w.heap.size, 2, none⟩ = false := obj_frozen hb1 2
  have y3 : w1.frozen? ⟨w.heap.size, 3, none⟩ = false := obj_frozen hb1 3
  have y4 : w1.frozen? ⟨w.heap.size, 4, none⟩ = false := obj_frozen hb1 4
  have HZ := Lib.hid hb1
  clear hb1 hb0 hB0
  go_wp2_with (first
    | (go_at_call 39; refine (HH.out _).mono ?_; rintro e w' ⟨rfl, rfl⟩)
    | (go_at_call 119; (with_reducible refine (part_7_5 x hx _).mono ?_); rintro e w' ⟨rfl, rfl⟩)
    | (go_at_call 119; (with_reducible refine (part_15_5 x hx _).mono ?_); rintro e w' ⟨rfl, rfl⟩)
    | (go_at_call 119; (with_reducible refine (part_20_12 x hx _).mono ?_); rintro e w' ⟨rfl, rfl⟩)
    | (go_at_call 120; (with_reducible refine (r1signed_12 (x / 1048576 % 4096) (by omega) _ (by first | rfl | omega) _).mono ?_); rintro e w' ⟨rfl, rfl⟩))
  refine gr_ret _ _ w.heap.size HZ.out _ _ _ _ _ _ _ _ (by rfl) ⟨by rw [HV.out] <;> (have := sgn_mod (x / 1048576) 12; simp at this; simp [this]), below5 hBw _ (Nat.le_refl _) _ _ _ _ _ _ _⟩
set_option maxRecDepth 20000 in
set_option maxHeartbeats 4000000 in
theorem guess_85 (op x : Nat) (_hop : op < 66) (hx : x < 4294967296) (hl : (formR op).1 = 85) (w : World) : Calls Tryd.prog 89 #[.int .i64 (op : Int), .int .u32 (x : Int)] w (GuessTo op x w) := by
  have HV := Lib.hid (show (gIns op x).cells = #[.int .i64 (op : Int), .int .i64 ((x / 128 % 32 : Nat) : Int), .int .i64 0, .int .i64 0, .int .i64 (sgn (x / 4096) 20)] by unfold gIns; rw [hl]; simp [Ins.cells, hasD1, has11, has21, gImm])
  have HF := Lib.hid (fun W => FormOf_any (op : Int) W)
  have HH := Lib.hid (fun W => r1Has_any 85 (by decide) W)
  unfold FormTo formV formZ at HF
  unfold HasTo at HH
  rw [Int.toNat_natCast] at HF
  generalize formR op = F at *
  obtain ⟨l, c, f3, f7⟩ := F
  obtain rfl : l = 85 := hl
  have hb0 : (w.alloc (.cells z5 32)).heap[w.heap.size]? = some (.cells z5 32 (0, 0)) := heap_alloc_new w _
  go_enter Tryd.func89, Tryd.ntmps89
  go_wp2_with fail
  refine Calls.mono (HF.out _) ?_
  rintro e w1 ⟨rfl, hB1⟩
  have hB0 : Below w.heap.size w (w.alloc (.cells z5 32)) := form1 w _
  have hBw := hB0.trans (hB1.mono hB0.size)
  have hb1 : w1.heap[w.heap.size]? = some (.cells z5 32 (0, 0)) := (hB1.block _ (by rw [World.size_alloc]; omega)).trans hb0
  have hz : w.heap.size < w1.heap.size := by have := hB1.size; rw [World.size_alloc] at this; omega
  have x0 : w1.cell? ⟨w.heap.size, 0, none⟩ = some (.int .i64 0) := (obj_cell hb1 0).trans rfl
  have x1 : w1.cell? ⟨w.heap.size, 1, none⟩ = some (.int .i64 0) := (obj_cell hb1 1).trans rfl
  have x2 : w1.cell? ⟨w.heap.size, 2, none⟩ = some (.int .i64 0) := (obj_cell hb1 2).trans rfl
  have x3 : w1.cell? ⟨w.heap.size, 3, none⟩ = some (.int .i64 0) := (obj_cell hb1 3).trans rfl
  have x4 : w1.cell? ⟨w.heap.size, 4, none⟩ = some (.int .i64 0) := (obj_cell hb1 4).trans rfl
  have y0 : w1.frozen? ⟨w.heap.size, 0, none⟩ = false := obj_frozen hb1 0
  have y1 : w1.frozen? ⟨w.heap.size, 1, none⟩ = false := obj_frozen hb1 1
  have y2 : w1.frozen? ⟨w.heap.size, 2, none⟩ = false := obj_frozen hb1 2
  have y3 : w1.frozen? ⟨w.heap.size, 3, none⟩ = false := obj_frozen hb1 3
  have y4 : w1.frozen? ⟨w.heap.size, 4, none⟩ = false := obj_frozen hb1 4
  have HZ := Lib.hid hb1
  clear hb1 hb0 hB0
  go_wp2_with (first
    | (go_at_call 39; refine (HH.out _).mono ?_; rintro e w' ⟨rfl, rfl⟩)
    | (go_at_call 119; (with_reducible refine (part_7_5 x hx _).mono ?_); rintro e w' ⟨rfl, rfl⟩)
    | (go_at_call 119; (with_reducible refine (part_12_20 x hx _).mono ?_); rintro e w' ⟨rfl, rfl⟩)
    | (go_at_call 120; (with_reducible refine (r1signed_20 (x / 4096 % 1048576) (by omega) _ (by first | rfl | omega) _).mono ?_); rintro e w' ⟨rfl, rfl⟩))
  refine gr_ret _ _ w.heap.size HZ.out _ _ _ _ _ _ _ _ (by rfl) ⟨by rw [HV.out] <;> (have := sgn_mod (x / 4096) 20; simp at this; simp [this]), below5 hBw _ (Nat.le_refl _) _ _ _ _ _ _ _⟩
set_option maxRecDepth 20000 in
set_option maxHeartbeats 4000000 in
theorem guess_83 (op x : Nat) (_hop : op < 66) (hx : x < 4294967296) (hl : (formR op).1 = 83) (w : World) : Calls Tryd.prog 89 #[.int .i64 (op : Int), .int .u32 (x : Int)] w (GuessTo op x w) := by
  have HV := Lib.hid (show (gIns op x).cells = #[.int .i64 (op : Int), .int .i64 0, .int .i64 ((x / 32768 % 32 : Nat) : Int), .int .i64 ((x / 1048576 % 32 : Nat) : Int), .int .i64 (sgn (x / 128 % 32 + x / 33554432 * 32) 12)] by unfold gIns; rw [hl]; simp [Ins.cells, hasD1, has11, has21, gImm])
  have HF := Lib.hid (fun W => FormOf_any (op : Int) W)
  have HH := Lib.hid (fun W => r1Has_any 83 (by decide) W)
  unfold FormTo formV formZ at HF
  unfold HasTo at HH
  rw [Int.toNat_natCast] at HF
  generalize formR op = F at *
  obtain ⟨l, c, f3, f7⟩ := F
  obtain rfl : l = 83 := hl
  have hb0 : (w.alloc (.cells z5 32)).heap[w.heap.size]? = some (.cells z5 32 (0, 0)) := heap_alloc_new w _
  have HS := Lib.hid (gz_S x hx)
  go_enter Tryd.func89, Tryd.ntmps89
  go_wp2_with fail
  refine Calls.mono (HF.out _) ?_
  rintro e w1 ⟨rfl, hB1⟩
  have hB0 : Below w.heap.size w (w.alloc (.cells z5 32)) := form1 w _
  have hBw := hB0.trans (hB1.mono hB0.size)
  have hb1 : w1.heap[w.heap.size]? = some (.cells z5 32 (0, 0)) := (hB1.block _ (by rw [World.size_alloc]; omega)).trans hb0
  have hz : w.heap.size < w1.heap.size := by have := hB1.size; rw [World.size_alloc] at this; omega
  have x0 : w1.cell? ⟨w.heap.size, 0, none⟩ = some (.int .i64 0) := (obj_cell hb1 0).trans rfl
  have x1 : w1.cell? ⟨w.heap.size, 1, none⟩ = some (.int .i64 0) := (obj_cell hb1 1).trans rfl
  have x2 : w1.cell? ⟨w.heap.size, 2, none⟩ = some (.int .i64 0) := (obj_cell hb1 2).trans rfl
  have x3 : w1.cell? ⟨w.heap.size, 3, none⟩ = some (.int .i64 0) := (obj_cell hb1 3).trans rfl
  have x4 : w1.cell? ⟨w.heap.size, 4, none⟩ = some (.int .i64 0) := (obj_cell hb1 4).trans rfl
  have y0 : w1.frozen? ⟨w.heap.size, 0, none⟩ = false := obj_frozen hb1 0
  have y1 : w1.frozen? ⟨w.heap.size, 1, none⟩ = false := obj_frozen hb1 1
  have y2 : w1.frozen? ⟨w.heap.size, 2, none⟩ = false := obj_frozen hb1 2
  have y3 : w1.frozen? ⟨w.heap.size, 3, none⟩ = false := obj_frozen hb1 3
  have y4 : w1.frozen? ⟨w.heap.size, 4, none⟩ = false := obj_frozen hb1 4
  have HZ := Lib.hid hb1
  clear hb1 hb0 hB0
  go_wp2_with (first
    | (go_at_call 39; refine (HH.out _).mono ?_; rintro e w' ⟨rfl, rfl⟩)
    | (go_at_call 119; (with_reducible refine (part_15_5 x hx _).mono ?_); rintro e w' ⟨rfl, rfl⟩)
    | (go_at_call 119; (with_reducible refine (part_20_5 x hx _).mono ?_); rintro e w' ⟨rfl, rfl⟩)
    | (go_at_call 119; (with_reducible refine (part_7_5 x hx _).mono ?_); rintro e w' ⟨rfl, rfl⟩)
    | (go_at_call 119; (with_reducible refine (part_25_7 x hx _).mono ?_); rintro e w' ⟨rfl, rfl⟩)
    | (go_at_call 120; (with_reducible refine (r1signed_12 (x / 128 % 32 + x / 33554432 * 32) (by omega) _ (HS.out) _).mono ?_); rintro e w' ⟨rfl, rfl⟩))
  refine gr_ret _ _ w.heap.size HZ.out _ _ _ _ _ _ _ _ (by rfl) ⟨by rw [HV.out] <;> (rfl), below5 hBw _ (Nat.le_refl _) _ _ _ _ _ _ _⟩
set_option maxRecDepth 20000 in
set_option maxHeartbeats 4000000 in
theorem guess_66 (op x : Nat) (_hop : op < 66) (hx : x < 4294967296) (hl : (formR op).1 = 66) (w : World) : Calls Tryd.prog 89 #[.int .i64 (op : Int), .int .u32 (x : Int)] w (GuessTo op x w) := by
  have HV := Lib.hid (show (gIns op x).cells = #[.int .i64 (op : Int), .int .i64 0, .int .i64 ((x / 32768 % 32 : Nat) : Int), .int .i64 ((x / 1048576 % 32 : Nat) : Int), .int .i64 (sgn (x / 256 % 16 * 2 + x / 33554432 % 64 * 32 + x / 128 % 2 * 2048 + x / 2147483648 * 4096) 13)] by unfold gIns; rw [hl]; simp [Ins.cells, hasD1, has11, has21, gImm])
  have HF := Lib.hid (fun W => FormOf_any (op : Int) W)
  have HH := Lib.hid (fun W => r1Has_any 66 (by decide) W)
  unfold FormTo formV formZ at HF
  unfold HasTo at HH
  rw [Int.toNat_natCast] at HF
  generalize formR op = F at *
  obtain ⟨l, c, f3, f7⟩ := F
  obtain rfl : l = 66 := hl
  have hb0 : (w.alloc (.cells z5 32)).heap[w.heap.size]? = some (.cells z5 32 (0, 0)) := heap_alloc_new w _
  have HS := Lib.hid (gz_B x hx)
  go_enter Tryd.func89, Tryd.ntmps89
  go_wp2_with fail
  refine Calls.mono (HF.out _) ?_
  rintro e w1 ⟨rfl, hB1⟩
  have hB0 : Below w.heap.size w (w.alloc (.cells z5 32)) := form1 w _
  have hBw := hB0.trans (hB1.mono hB0.size)
  have hb1 : w1.heap[w.heap.size]? = some (.cells z5 32 (0, 0)) := (hB1.block _ (by rw [World.size_alloc]; omega)).trans hb0
  have hz : w.heap.size < w1.heap.size := by have := hB1.size; rw [World.size_alloc] at this; omega
  have x0 : w1.cell? ⟨w.heap.size, 0, none⟩ = some (.int .i64 0) := (obj_cell hb1 0).trans rfl
  have x1 : w1.cell? ⟨w.heap.size, 1, none⟩ = some (.int .i64 0) := (obj_cell hb1 1).trans rfl
  have x2 : w1.cell? ⟨w.heap.size, 2, none⟩ = some (.int .i64 0) := (obj_cell hb1 2).trans rfl
  have x3 : w1.cell? ⟨w.heap.size, 3, none⟩ = some (.int .i64 0) := (obj_cell hb1 3).trans rfl
  have x4 : w1.cell? ⟨w.heap.size, 4, none⟩ = some (.int .i64 0) := (obj_cell hb1 4).trans rfl
  have y0 : w1.frozen? ⟨w.heap.size, 0, none⟩ = false := obj_frozen hb1 0
  have y1 : w1.frozen? ⟨w.heap.size, 1, none⟩ = false := obj_frozen hb1 1
  have y2 : w1.frozen? ⟨w.heap.size, 2, none⟩ = false := obj_frozen hb1 2
  have y3 : w1.frozen? ⟨w.heap.size, 3, none⟩ = false := obj_frozen hb1 3
  have y4 : w1.frozen? ⟨w.heap.size, 4, none⟩ = false := obj_frozen hb1 4
  have HZ := Lib.hid hb1
  clear hb1 hb0 hB0
  go_wp2_with (first
    | (go_at_call 39; refine (HH.out _).mono ?_; rintro e w' ⟨rfl, rfl⟩)
    | (go_at_call 119; (with_reducible refine (part_15_5 x hx _).mono ?_); rintro e w' ⟨rfl, rfl⟩)
    | (go_at_call 119; (with_reducible refine (part_20_5 x hx _).mono ?_); rintro e w' ⟨rfl, rfl⟩)
    | (go_at_call 119; (with_reducible refine (part_8_4 x hx _).mono ?_); rintro e w' ⟨rfl, rfl⟩)
    | (go_at_call 119; (with_reducible refine (part_25_6 x hx _).mono ?_); rintro e w' ⟨rfl, rfl⟩)
    | (go_at_call 119; (with_reducible refine (part_7_1 x hx _).mono ?_); rintro e w' ⟨rfl, rfl⟩)
    | (go_at_call 119; (with_reducible refine (part_31_1 x hx _).mono ?_); rintro e w' ⟨rfl, rfl⟩)
    | (go_at_call 120; (with_reducible refine (r1signed_13 (x / 256 % 16 * 2 + x / 33554432 % 64 * 32 + x / 128 % 2 * 2048 + x / 2147483648 * 4096) (by omega) _ (HS.out) _).mono ?_); rintro e w' ⟨rfl, rfl⟩))
  refine gr_ret _ _ w.heap.size HZ.out _ _ _ _ _ _ _ _ (by rfl) ⟨by rw [HV.out] <;> (rfl), below5 hBw _ (Nat.le_refl _) _ _ _ _ _ _ _⟩
set_option maxRecDepth 20000 in
set_option maxHeartbeats 4000000 in
theorem guess_74 (op x : Nat) (_hop : op < 66) (hx : x < 4294967296) (hl : (formR op).1 = 74) (w : World) : Calls Tryd.prog 89 #[.int .i64 (op : Int), .int .u32 (x : Int)] w (GuessTo op x w) := by
  have HV := Lib.hid (show (gIns op x).cells = #[.int .i64 (op : Int), .int .i64 ((x / 128 % 32 : Nat) : Int), .int .i64 0, .int .i64 0, .int .i64 (sgn (x / 2097152 % 1024 * 2 + x / 1048576 % 2 * 2048 + x / 4096 % 256 * 4096 + x / 2147483648 * 1048576) 21)] by unfold gIns; rw [hl]; simp [Ins.cells, hasD1, has11, has21, gImm])
  have HF := Lib.hid (fun W => FormOf_any (op : Int) W)
  have HH := Lib.hid (fun W => r1Has_any 74 (by decide) W)
  unfold FormTo formV formZ at HF
  unfold HasTo at HH
  rw [Int.toNat_natCast] at HF
  generalize formR op = F at *
  obtain ⟨l, c, f3, f7⟩ := F
  obtain rfl : l = 74 := hl
  have hb0 : (w.alloc (.cells z5 32)).heap[w.heap.size]? = some (.cells z5 32 (0, 0)) := heap_alloc_new w _
  have HS := Lib.hid (gz_J x hx)
  go_enter Tryd.func89, Tryd.ntmps89
  go_wp2_with fail
  refine Calls.mono (HF.out _) ?_
  rintro e w1 ⟨rfl, hB1⟩
  have hB0 : Below w.heap.size w (w.alloc (.cells z5 32)) := form1 w _
  have hBw := hB0.trans (hB1.mono hB0.size)
  have hb1 : w1.heap[w.heap.size]? = some (.cells z5 32 (0, 0)) := (hB1.block _ (by rw [World.size_alloc]; omega)).trans hb0
  have hz : w.heap.size < w1.heap.size := by have := hB1.size; rw [World.size_alloc] at this; omega
  have x0 : w1.cell? ⟨w.heap.size, 0, none⟩ = some (.int .i64 0) := (obj_cell hb1 0).trans rfl
  have x1 : w1.cell? ⟨w.heap.size, 1, none⟩ = some (.int .i64 0) := (obj_cell hb1 1).trans rfl
  have x2 : w1.cell? ⟨w.heap.size, 2, none⟩ = some (.int .i64 0) := (obj_cell hb1 2).trans rfl
  have x3 : w1.cell? ⟨w.heap.size, 3, none⟩ = some (.int .i64 0) := (obj_cell hb1 3).trans rfl
  have x4 : w1.cell? ⟨w.heap.size, 4, none⟩ = some (.int .i64 0) := (obj_cell hb1 4).trans rfl
  have y0 : w1.frozen? ⟨w.heap.size, 0, none⟩ = false := obj_frozen hb1 0
  have y1 : w1.frozen? ⟨w.heap.size, 1, none⟩ = false := obj_frozen hb1 1
  have y2 : w1.frozen? ⟨w.heap.size, 2, none⟩ = false := obj_frozen hb1 2
  have y3 : w1.frozen? ⟨w.heap.size, 3, none⟩ = false := obj_frozen hb1 3
  have y4 : w1.frozen? ⟨w.heap.size, 4, none⟩ = false := obj_frozen hb1 4
  have HZ := Lib.hid hb1
  clear hb1 hb0 hB0
  go_wp2_with (first
    | (go_at_call 39; refine (HH.out _).mono ?_; rintro e w' ⟨rfl, rfl⟩)
    | (go_at_call 119; (with_reducible refine (part_7_5 x hx _).mono ?_); rintro e w' ⟨rfl, rfl⟩)
    | (go_at_call 119; (with_reducible refine (part_21_10 x hx _).mono ?_); rintro e w' ⟨rfl, rfl⟩)
    | (go_at_call 119; (with_reducible refine (part_20_1 x hx _).mono ?_); rintro e w' ⟨rfl, rfl⟩)
    | (go_at_call 119; (with_reducible refine (part_12_8 x hx _).mono ?_); rintro e w' ⟨rfl, rfl⟩)
    | (go_at_call 119; (with_reducible refine (part_31_1 x hx _).mono ?_); rintro e w' ⟨rfl, rfl⟩)
    | (go_at_call 120; (with_reducible refine (r1signed_21 (x / 2097152 % 1024 * 2 + x / 1048576 % 2 * 2048 + x / 4096 % 256 * 4096 + x / 2147483648 * 1048576) (by omega) _ (HS.out) _).mono ?_); rintro e w' ⟨rfl, rfl⟩))
  refine gr_ret _ _ w.heap.size HZ.out _ _ _ _ _ _ _ _ (by rfl) ⟨by rw [HV.out] <;> (rfl), below5 hBw _ (Nat.le_refl _) _ _ _ _ _ _ _⟩
theorem guess_any (op x : Nat) (hop : op < 66) (hx : x < 4294967296) (w : World) : Calls Tryd.prog 89 #[.int .i64 (op : Int), .int .u32 (x : Int)] w (GuessTo op x w) := by
  have hl : (formR op).1 ∈ lettersL := formR_letter _
  simp only [lettersL, List.mem_cons, List.not_mem_nil, or_false] at hl
  rcases hl with h | h | h | h | h | h | h | h | h | h
  · exact guess_0 op x hop hx h w
  · exact guess_85 op x hop hx h w
  · exact guess_74 op x hop hx h w
  · exact guess_73 op x hop hx h w
  · exact guess_66 op x hop hx h w
  · exact guess_83 op x hop hx h w
  · exact guess_72 op x hop hx h w
  · exact guess_104 op x hop hx h w
  · exact guess_82 op x hop hx h w
  · exact guess_78 op x hop hx h w
end Go.Proofs
