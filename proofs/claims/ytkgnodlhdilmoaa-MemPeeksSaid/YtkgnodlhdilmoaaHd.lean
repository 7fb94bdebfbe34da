/- patinaref04.head, row. -/
import Derived.Test.YtkgnodlhdilmoaaPl2
namespace Go.Pat
open Go Go.RowKit
def head16 : List UInt8 := [127, 69, 76, 70, 2, 1, 1, 0, 0, 0, 0, 0, 0, 0, 0, 0]
def headB (en n : Nat) : List UInt8 := head16 ++ le 2 2 ++ le 2 243 ++ le 4 1 ++ le 8 en ++ le 8 64 ++ le 8 0 ++ le 4 0 ++ le 2 64 ++ le 2 56 ++ le 2 n ++ le 6 0
def rowB (addr perm len size at_ : Nat) : List UInt8 := le 4 1 ++ le 4 perm ++ le 8 at_ ++ le 8 addr ++ le 8 addr ++ le 8 len ++ le 8 size ++ le 8 4096
theorem headB_length (en n : Nat) : (headB en n).length = 64 := by simp [headB, head16, le_length]
theorem rowB_length (addr perm len size at_ : Nat) : (rowB addr perm len size at_).length = 56 := by simp [rowB, le_length]
end Go.Pat
namespace Go.Proofs
open Go Go.RowKit Go.Pat

theorem rnumber4_bs (w : World) (v n : Nat) (hv : v < 18446744073709551616) (hn : n ≤ 8) :
    Calls Try.prog 92 #[.int .u64 v, .int .i64 n] w fun e w' => ∃ A c, e = .returned (.slice A n c) ∧ Bs w'.heap.size w' A (le n v) ∧ OwnB w' w.heap.size (.slice A n c) (le n v) ∧ Below w.heap.size w w' := by
  refine (rnumber4_any w v n hv hn).mono ?_
  rintro e w' ⟨x, rfl, hx, hb⟩
  obtain ⟨A, c, rfl, hs⟩ := hx.form
  rw [le_length] at hx
  exact ⟨A, c, by rw [le_length], hs, hx, hb⟩

set_option maxHeartbeats 4000000 in
theorem rhead4_any (w : World) (en n : Nat) (hen : en < 18446744073709551616) (hn : n ≤ 8) :
    Calls Try.prog 70 #[.int .u64 en, .int .i64 n] w fun e w' => ∃ A c, e = .returned (.slice A 64 c) ∧ Bs w'.heap.size w' A (headB en n) ∧ Below w.heap.size w w' := by
  go_enter Try.func70, Try.ntmps70
  have hown0 : OwnB (w.alloc (.cells (bcells head16).toArray 5)) w.heap.size (.slice (some ⟨w.heap.size, 0, none⟩) 16 16) head16 := World.ownsRow_lit w (bcells head16).toArray 16 (Nat.le_refl _) (by simp [maxLen, bcells, head16]) rfl
  have hB0 : Below w.heap.size w (w.alloc (.cells (bcells head16).toArray 5)) := (Below.refl _ _).alloc (Nat.le_refl _) _
  go_wp2_with fail
  refine Calls.mono (rnumber4_bs _ 2 2 (by decide) (by decide)) ?_
  rintro e w' ⟨A0, c0, rfl, hs0, -, hb0⟩
  go_wp2_with (at_builtin; refine wpList_appB _ rfl _ _ rfl w.heap.size _ (head16) rfl (hown0.below hb0) _ _ 2 c0 (le 2 2) rfl (le_length _ _) hs0 ?hl0 ?hb0 ?hk0)
  case hl0 => simp only [List.length_append, le_length, show head16.length = 16 from rfl]; decide
  case hb0 => exact Nat.le_trans hB0.size hb0.size
  clear hs0
  rintro v1 w1 hown1 hB' -
  have hB1 := hB' w (hB0.trans (hb0.mono hB0.size))
  clear hB' hb0 hown0 hB0
  go_wp2_with fail
  refine Calls.mono (rnumber4_bs _ 243 2 (by decide) (by decide)) ?_
  rintro e w' ⟨A1, c1, rfl, hs1, -, hb1⟩
  go_wp2_with (at_builtin; refine wpList_appB _ rfl _ _ rfl w.heap.size _ (head16 ++ le 2 2) rfl (hown1.below hb1) _ _ 2 c1 (le 2 243) rfl (le_length _ _) hs1 ?hl1 ?hb1 ?hk1)
  case hl1 => simp only [List.length_append, le_length, show head16.length = 16 from rfl]; decide
  case hb1 => exact Nat.le_trans hB1.size hb1.size
  clear hs1
  rintro v2 w2 hown2 hB' -
  have hB2 := hB' w (hB1.trans (hb1.mono hB1.size))
  clear hB' hb1 hown1 hB1
  go_wp2_with fail
  refine Calls.mono (rnumber4_bs _ 1 4 (by decide) (by decide)) ?_
  rintro e w' ⟨A2, c2, rfl, hs2, -, hb2⟩
  go_wp2_with (at_builtin; refine wpList_appB _ rfl _ _ rfl w.heap.size _ (head16 ++ le 2 2 ++ le 2 243) rfl (hown2.below hb2) _ _ 4 c2 (le 4 1) rfl (le_length _ _) hs2 ?hl2 ?hb2 ?hk2)
  case hl2 => simp only [List.length_append, le_length, show head16.length = 16 from rfl]; decide
  case hb2 => exact Nat.le_trans hB2.size hb2.size
  clear hs2
  rintro v3 w3 hown3 hB' -
  have hB3 := hB' w (hB2.trans (hb2.mono hB2.size))
  clear hB' hb2 hown2 hB2
  go_wp2_with fail
  refine Calls.mono (rnumber4_bs _ en 8 hen (by decide)) ?_
  rintro e w' ⟨A3, c3, rfl, hs3, -, hb3⟩
  go_wp2_with (at_builtin; refine wpList_appB _ rfl _ _ rfl w.heap.size _ (head16 ++ le 2 2 ++ le 2 243 ++ le 4 1) rfl (hown3.below hb3) _ _ 8 c3 (le 8 en) rfl (le_length _ _) hs3 ?hl3 ?hb3 ?hk3)
  case hl3 => simp only [List.length_append, le_length, show head16.length = 16 from rfl]; decide
  case hb3 => exact Nat.le_trans hB3.size hb3.size
  clear hs3
  rintro v4 w4 hown4 hB' -
  have hB4 := hB' w (hB3.trans (hb3.mono hB3.size))
  clear hB' hb3 hown3 hB3
  go_wp2_with fail
  refine Calls.mono (rnumber4_bs _ 64 8 (by decide) (by decide)) ?_
  rintro e w' ⟨A4, c4, rfl, hs4, -, hb4⟩
  go_wp2_with (at_builtin; refine wpList_appB _ rfl _ _ rfl w.heap.size _ (head16 ++ le 2 2 ++ le 2 243 ++ le 4 1 ++ le 8 en) rfl (hown4.below hb4) _ _ 8 c4 (le 8 64) rfl (le_length _ _) hs4 ?hl4 ?hb4 ?hk4)
  case hl4 => simp only [List.length_append, le_length, show head16.length = 16 from rfl]; decide
  case hb4 => exact Nat.le_trans hB4.size hb4.size
  clear hs4
  rintro v5 w5 hown5 hB' -
  have hB5 := hB' w (hB4.trans (hb4.mono hB4.size))
  clear hB' hb4 hown4 hB4
  go_wp2_with fail
  refine Calls.mono (rnumber4_bs _ 0 8 (by decide) (by decide)) ?_
  rintro e w' ⟨A5, c5, rfl, hs5, -, hb5⟩
  go_wp2_with (at_builtin; refine wpList_appB _ rfl _ _ rfl w.heap.size _ (head16 ++ le 2 2 ++ le 2 243 ++ le 4 1 ++ le 8 en ++ le 8 64) rfl (hown5.below hb5) _ _ 8 c5 (le 8 0) rfl (le_length _ _) hs5 ?hl5 ?hb5 ?hk5)
  case hl5 => simp only [List.length_append, le_length, show head16.length = 16 from rfl]; decide
  case hb5 => exact Nat.le_trans hB5.size hb5.size
  clear hs5
  rintro v6 w6 hown6 hB' -
  have hB6 := hB' w (hB5.trans (hb5.mono hB5.size))
  clear hB' hb5 hown5 hB5
  go_wp2_with fail
  refine Calls.mono (rnumber4_bs _ 0 4 (by decide) (by decide)) ?_
  rintro e w' ⟨A6, c6, rfl, hs6, -, hb6⟩
  go_wp2_with (at_builtin; refine wpList_appB _ rfl _ _ rfl w.heap.size _ (head16 ++ le 2 2 ++ le 2 243 ++ le 4 1 ++ le 8 en ++ le 8 64 ++ le 8 0) rfl (hown6.below hb6) _ _ 4 c6 (le 4 0) rfl (le_length _ _) hs6 ?hl6 ?hb6 ?hk6)
  case hl6 => simp only [List.length_append, le_length, show head16.length = 16 from rfl]; decide
  case hb6 => exact Nat.le_trans hB6.size hb6.size
  clear hs6
  rintro v7 w7 hown7 hB' -
  have hB7 := hB' w (hB6.trans (hb6.mono hB6.size))
  clear hB' hb6 hown6 hB6
  go_wp2_with fail
  refine Calls.mono (rnumber4_bs _ 64 2 (by decide) (by decide)) ?_
  rintro e w' ⟨A7, c7, rfl, hs7, -, hb7⟩
  go_wp2_with (at_builtin; refine wpList_appB _ rfl _ _ rfl w.heap.size _ (head16 ++ le 2 2 ++ le 2 243 ++ le 4 1 ++ le 8 en ++ le 8 64 ++ le 8 0 ++ le 4 0) rfl (hown7.below hb7) _ _ 2 c7 (le 2 64) rfl (le_length _ _) hs7 ?hl7 ?hb7 ?hk7)
  case hl7 => simp only [List.length_append, le_length, show head16.length = 16 from rfl]; decide
  case hb7 => exact Nat.le_trans hB7.size hb7.size
  clear hs7
  rintro v8 w8 hown8 hB' -
  have hB8 := hB' w (hB7.trans (hb7.mono hB7.size))
  clear hB' hb7 hown7 hB7
  go_wp2_with fail
  refine Calls.mono (rnumber4_bs _ 56 2 (by decide) (by decide)) ?_
  rintro e w' ⟨A8, c8, rfl, hs8, -, hb8⟩
  go_wp2_with (at_builtin; refine wpList_appB _ rfl _ _ rfl w.heap.size _ (head16 ++ le 2 2 ++ le 2 243 ++ le 4 1 ++ le 8 en ++ le 8 64 ++ le 8 0 ++ le 4 0 ++ le 2 64) rfl (hown8.below hb8) _ _ 2 c8 (le 2 56) rfl (le_length _ _) hs8 ?hl8 ?hb8 ?hk8)
  case hl8 => simp only [List.length_append, le_length, show head16.length = 16 from rfl]; decide
  case hb8 => exact Nat.le_trans hB8.size hb8.size
  clear hs8
  rintro v9 w9 hown9 hB' -
  have hB9 := hB' w (hB8.trans (hb8.mono hB8.size))
  clear hB' hb8 hown8 hB8
  go_wp2_with fail
  refine Calls.mono (rnumber4_bs _ n 2 (by omega) (by decide)) ?_
  rintro e w' ⟨A9, c9, rfl, hs9, -, hb9⟩
  go_wp2_with (at_builtin; refine wpList_appB _ rfl _ _ rfl w.heap.size _ (head16 ++ le 2 2 ++ le 2 243 ++ le 4 1 ++ le 8 en ++ le 8 64 ++ le 8 0 ++ le 4 0 ++ le 2 64 ++ le 2 56) rfl (hown9.below hb9) _ _ 2 c9 (le 2 n) rfl (le_length _ _) hs9 ?hl9 ?hb9 ?hk9)
  case hl9 => simp only [List.length_append, le_length, show head16.length = 16 from rfl]; decide
  case hb9 => exact Nat.le_trans hB9.size hb9.size
  clear hs9
  rintro v10 w10 hown10 hB' -
  have hB10 := hB' w (hB9.trans (hb9.mono hB9.size))
  clear hB' hb9 hown9 hB9
  go_wp2_with fail
  refine Calls.mono (rnumber4_bs _ 0 6 (by decide) (by decide)) ?_
  rintro e w' ⟨A10, c10, rfl, hs10, -, hb10⟩
  go_wp2_with (at_builtin; refine wpList_appB _ rfl _ _ rfl w.heap.size _ (head16 ++ le 2 2 ++ le 2 243 ++ le 4 1 ++ le 8 en ++ le 8 64 ++ le 8 0 ++ le 4 0 ++ le 2 64 ++ le 2 56 ++ le 2 n) rfl (hown10.below hb10) _ _ 6 c10 (le 6 0) rfl (le_length _ _) hs10 ?hl10 ?hb10 ?hk10)
  case hl10 => simp only [List.length_append, le_length, show head16.length = 16 from rfl]; decide
  case hb10 => exact Nat.le_trans hB10.size hb10.size
  clear hs10
  rintro v11 w11 hown11 hB' -
  have hB11 := hB' w (hB10.trans (hb10.mono hB10.size))
  clear hB' hb10 hown10 hB10
  have hfin : OwnB w11 w.heap.size v11 (headB en n) := hown11
  clear hown11
  obtain ⟨A, c, rfl, hs⟩ := hfin.form
  rw [headB_length] at *
  go_wp2
  go_ret
  exact ⟨A, c, rfl, hs, hB11⟩

set_option maxHeartbeats 4000000 in
theorem rrow4_any (w : World) (addr perm size at_ len cap : Nat) (A : Option Addr) (haddr : addr < 18446744073709551616) (hperm : perm ≤ 7) (hsize : size < 18446744073709551616) (hat : at_ < 18446744073709551616) (hlen : len ≤ 140737488351232) :
    Calls Try.prog 71 #[.agg #[.int .u64 addr, .int .i64 perm, .slice A len cap, .int .u64 size], .int .u64 at_] w fun e w' => ∃ A c, e = .returned (.slice A 56 c) ∧ Bs w'.heap.size w' A (rowB addr perm len size at_) ∧ Below w.heap.size w w' := by
  have hb00 : Below w.heap.size w (w.alloc (.cells #[.int .u64 addr, .int .i64 perm, .slice A len cap, .int .u64 size] 73)) := (Below.refl _ _).alloc (Nat.le_refl _) _
  go_enter Try.func71, Try.ntmps71
  go_wp2_with fail
  refine Calls.mono (rnumber4_bs _ 1 4 (by decide) (by decide)) ?_
  rintro e w0 ⟨A0, c0, rfl, -, hown0, hb0⟩
  rw [World.size_alloc] at hb0 hown0
  have hB0 : Below (w.heap.size + 1) (w.alloc (.cells #[.int .u64 addr, .int .i64 perm, .slice A len cap, .int .u64 size] 73)) w0 := hb0
  clear hb0
  obtain ⟨d0, d1, d2, d3⟩ := four_cells1 _ _ _ _ _ _ hB0
  go_wp2_with fail
  refine Calls.mono (rnumber4_bs _ perm 4 (by omega) (by decide)) ?_
  rintro e w' ⟨A1, c1, rfl, hs1, -, hb1⟩
  clear d0 d1 d2 d3
  go_wp2_with (at_builtin; refine wpList_appB _ rfl _ _ rfl (w.heap.size + 1) _ (le 4 1) rfl (hown0.below hb1) _ _ 4 c1 (le 4 perm) rfl (le_length _ _) hs1 ?hl1 ?hb1 ?hk1)
  case hl1 => simp only [List.length_append, le_length]; decide
  case hb1 => have h1 := hB0.size; have h2 := hb1.size; rw [World.size_alloc] at h1; exact Nat.le_trans h1 h2
  clear hs1
  rintro v1 w1 hown1 hB' -
  have hB1 := hB' (w.alloc (.cells #[.int .u64 addr, .int .i64 perm, .slice A len cap, .int .u64 size] 73)) (hB0.trans (hb1.mono (by have h1 := hB0.size; rw [World.size_alloc] at h1; exact h1)))
  clear hB' hb1 hown0 hB0
  obtain ⟨d0, d1, d2, d3⟩ := four_cells1 _ _ _ _ _ _ hB1
  go_wp2_with fail
  refine Calls.mono (rnumber4_bs _ at_ 8 hat (by decide)) ?_
  rintro e w' ⟨A2, c2, rfl, hs2, -, hb2⟩
  clear d0 d1 d2 d3
  go_wp2_with (at_builtin; refine wpList_appB _ rfl _ _ rfl (w.heap.size + 1) _ (le 4 1 ++ le 4 perm) rfl (hown1.below hb2) _ _ 8 c2 (le 8 at_) rfl (le_length _ _) hs2 ?hl2 ?hb2 ?hk2)
  case hl2 => simp only [List.length_append, le_length]; decide
  case hb2 => have h1 := hB1.size; have h2 := hb2.size; rw [World.size_alloc] at h1; exact Nat.le_trans h1 h2
  clear hs2
  rintro v2 w2 hown2 hB' -
  have hB2 := hB' (w.alloc (.cells #[.int .u64 addr, .int .i64 perm, .slice A len cap, .int .u64 size] 73)) (hB1.trans (hb2.mono (by have h1 := hB1.size; rw [World.size_alloc] at h1; exact h1)))
  clear hB' hb2 hown1 hB1
  obtain ⟨d0, d1, d2, d3⟩ := four_cells1 _ _ _ _ _ _ hB2
  go_wp2_with fail
  refine Calls.mono (rnumber4_bs _ addr 8 haddr (by decide)) ?_
  rintro e w' ⟨A3, c3, rfl, hs3, -, hb3⟩
  clear d0 d1 d2 d3
  go_wp2_with (at_builtin; refine wpList_appB _ rfl _ _ rfl (w.heap.size + 1) _ (le 4 1 ++ le 4 perm ++ le 8 at_) rfl (hown2.below hb3) _ _ 8 c3 (le 8 addr) rfl (le_length _ _) hs3 ?hl3 ?hb3 ?hk3)
  case hl3 => simp only [List.length_append, le_length]; decide
  case hb3 => have h1 := hB2.size; have h2 := hb3.size; rw [World.size_alloc] at h1; exact Nat.le_trans h1 h2
  clear hs3
  rintro v3 w3 hown3 hB' -
  have hB3 := hB' (w.alloc (.cells #[.int .u64 addr, .int .i64 perm, .slice A len cap, .int .u64 size] 73)) (hB2.trans (hb3.mono (by have h1 := hB2.size; rw [World.size_alloc] at h1; exact h1)))
  clear hB' hb3 hown2 hB2
  obtain ⟨d0, d1, d2, d3⟩ := four_cells1 _ _ _ _ _ _ hB3
  go_wp2_with fail
  refine Calls.mono (rnumber4_bs _ addr 8 haddr (by decide)) ?_
  rintro e w' ⟨A4, c4, rfl, hs4, -, hb4⟩
  clear d0 d1 d2 d3
  go_wp2_with (at_builtin; refine wpList_appB _ rfl _ _ rfl (w.heap.size + 1) _ (le 4 1 ++ le 4 perm ++ le 8 at_ ++ le 8 addr) rfl (hown3.below hb4) _ _ 8 c4 (le 8 addr) rfl (le_length _ _) hs4 ?hl4 ?hb4 ?hk4)
  case hl4 => simp only [List.length_append, le_length]; decide
  case hb4 => have h1 := hB3.size; have h2 := hb4.size; rw [World.size_alloc] at h1; exact Nat.le_trans h1 h2
  clear hs4
  rintro v4 w4 hown4 hB' -
  have hB4 := hB' (w.alloc (.cells #[.int .u64 addr, .int .i64 perm, .slice A len cap, .int .u64 size] 73)) (hB3.trans (hb4.mono (by have h1 := hB3.size; rw [World.size_alloc] at h1; exact h1)))
  clear hB' hb4 hown3 hB3
  obtain ⟨d0, d1, d2, d3⟩ := four_cells1 _ _ _ _ _ _ hB4
  go_wp2_with fail
  refine Calls.mono (rnumber4_bs _ len 8 (by omega) (by decide)) ?_
  rintro e w' ⟨A5, c5, rfl, hs5, -, hb5⟩
  clear d0 d1 d2 d3
  go_wp2_with (at_builtin; refine wpList_appB _ rfl _ _ rfl (w.heap.size + 1) _ (le 4 1 ++ le 4 perm ++ le 8 at_ ++ le 8 addr ++ le 8 addr) rfl (hown4.below hb5) _ _ 8 c5 (le 8 len) rfl (le_length _ _) hs5 ?hl5 ?hb5 ?hk5)
  case hl5 => simp only [List.length_append, le_length]; decide
  case hb5 => have h1 := hB4.size; have h2 := hb5.size; rw [World.size_alloc] at h1; exact Nat.le_trans h1 h2
  clear hs5
  rintro v5 w5 hown5 hB' -
  have hB5 := hB' (w.alloc (.cells #[.int .u64 addr, .int .i64 perm, .slice A len cap, .int .u64 size] 73)) (hB4.trans (hb5.mono (by have h1 := hB4.size; rw [World.size_alloc] at h1; exact h1)))
  clear hB' hb5 hown4 hB4
  obtain ⟨d0, d1, d2, d3⟩ := four_cells1 _ _ _ _ _ _ hB5
  go_wp2_with fail
  refine Calls.mono (rnumber4_bs _ size 8 hsize (by decide)) ?_
  rintro e w' ⟨A6, c6, rfl, hs6, -, hb6⟩
  clear d0 d1 d2 d3
  go_wp2_with (at_builtin; refine wpList_appB _ rfl _ _ rfl (w.heap.size + 1) _ (le 4 1 ++ le 4 perm ++ le 8 at_ ++ le 8 addr ++ le 8 addr ++ le 8 len) rfl (hown5.below hb6) _ _ 8 c6 (le 8 size) rfl (le_length _ _) hs6 ?hl6 ?hb6 ?hk6)
  case hl6 => simp only [List.length_append, le_length]; decide
  case hb6 => have h1 := hB5.size; have h2 := hb6.size; rw [World.size_alloc] at h1; exact Nat.le_trans h1 h2
  clear hs6
  rintro v6 w6 hown6 hB' -
  have hB6 := hB' (w.alloc (.cells #[.int .u64 addr, .int .i64 perm, .slice A len cap, .int .u64 size] 73)) (hB5.trans (hb6.mono (by have h1 := hB5.size; rw [World.size_alloc] at h1; exact h1)))
  clear hB' hb6 hown5 hB5
  obtain ⟨d0, d1, d2, d3⟩ := four_cells1 _ _ _ _ _ _ hB6
  go_wp2_with fail
  refine Calls.mono (rnumber4_bs _ 4096 8 (by decide) (by decide)) ?_
  rintro e w' ⟨A7, c7, rfl, hs7, -, hb7⟩
  clear d0 d1 d2 d3
  go_wp2_with (at_builtin; refine wpList_appB _ rfl _ _ rfl (w.heap.size + 1) _ (le 4 1 ++ le 4 perm ++ le 8 at_ ++ le 8 addr ++ le 8 addr ++ le 8 len ++ le 8 size) rfl (hown6.below hb7) _ _ 8 c7 (le 8 4096) rfl (le_length _ _) hs7 ?hl7 ?hb7 ?hk7)
  case hl7 => simp only [List.length_append, le_length]; decide
  case hb7 => have h1 := hB6.size; have h2 := hb7.size; rw [World.size_alloc] at h1; exact Nat.le_trans h1 h2
  clear hs7
  rintro v7 w7 hown7 hB' -
  have hB7 := hB' (w.alloc (.cells #[.int .u64 addr, .int .i64 perm, .slice A len cap, .int .u64 size] 73)) (hB6.trans (hb7.mono (by have h1 := hB6.size; rw [World.size_alloc] at h1; exact h1)))
  clear hB' hb7 hown6 hB6
  have hfin : OwnB w7 (w.heap.size + 1) v7 (rowB addr perm len size at_) := hown7
  clear hown7
  obtain ⟨A2, c, rfl, hs⟩ := hfin.form
  rw [rowB_length] at *
  go_wp2
  go_ret
  exact ⟨A2, c, rfl, hs, hb00.trans (hB7.mono (Nat.le_succ _))⟩
end Go.Proofs
