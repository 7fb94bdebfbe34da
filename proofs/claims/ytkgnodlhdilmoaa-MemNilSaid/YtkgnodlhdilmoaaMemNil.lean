/- patinalaw02.MemNil: a memory that is none; the walk. -/
import Derived.Test.YtkgnodlhdilmoaaSameM
import Derived.Test.YtkgnodlhdilmoaaRMap2
namespace Go.Pat
open Go Go.RowKit
theorem askTo_nil (at_ : Nat) (perm : Int) (n : Nat) (hn : 1 ≤ n) : askTo [] at_ perm n = 20 := by
  cases n with
  | zero => omega
  | succ k =>
    simp only [askTo]
    split
    · rfl
    · rfl
theorem anyThere_nil (base n : Nat) : anyThere [] base n = false := by
  induction n with
  | zero => rfl
  | succ n ih => rw [show anyThere [] base (n + 1) = (anyThere [] base n || (pageOf [] (base + n * 4096)).isSome) from rfl, ih]; rfl
end Go.Pat
namespace Go.Proofs
open Go Go.RowKit Go.Pat

theorem asked_nil (w : World) (at_ n : Nat) (perm : Int) (hat : at_ < 18446744073709551616) (hn1 : 1 ≤ n) (hn : n ≤ 8) :
    Calls Try.prog 58 #[.pointer none, .int .u64 at_, .int .i64 n, .int .i64 perm] w fun e w' => e = .returned (.int .i64 (askedM [] at_ n perm)) ∧ Below w.heap.size w w' := by
  by_cases h : 281474976710656 ≤ at_ ∨ 281474976710656 - at_ < n
  · refine (asked_arg w _ at_ n perm hat (by omega) h).mono ?_
    rintro e w' ⟨rfl, rfl⟩
    exact ⟨by simp only [askedM, if_pos h], Below.refl _ _⟩
  · have hE : askedM [] at_ n perm = 20 := by simp only [askedM, if_neg h]; exact askTo_nil _ _ _ hn1
    have HE := Lib.hid hE
    have hd : decide ((281474976710656 : Int) ≤ (at_ : Int)) = false := decide_eq_false (by omega)
    have hd2 : decide ((281474976710656 : Int) - (at_ : Int) < (n : Int)) = false := decide_eq_false (by omega)
    have hd3 : decide ((0 : Int) < (n : Int)) = true := decide_eq_true (by omega)
    have hle : (at_ : Int) ≤ 281474976710656 := by omega
    clear h hE
    go_enter Try.func58, Try.ntmps58
    go_wp2
    refine wp_loop_rounds 1 ?_
    rw [rounds_succ]
    go_wp2_with (go_at_call 76; refine (page_nil _ _).mono ?_; rintro e w' ⟨rfl, hb⟩)
    go_ret
    exact ⟨by rw [HE.out]; rfl, hb.alloc hb.size _⟩

theorem Load_nil (w : World) (at_ : Nat) (n : Int) (hat : at_ < 18446744073709551616) :
    Calls Try.prog 20 #[.pointer none, .int .u64 at_, .int .i64 n] w fun e w' => e = .returned (.tuple #[.int .u64 (loadM [] at_ n).1, .int .i64 (loadM [] at_ n).2]) ∧ Below w.heap.size w w' := by
  cases hw : wide n with
  | false =>
    have hfin : loadM [] at_ n = (0, 1) := by simp [loadM, hw]
    have HF := Lib.hid hfin
    clear hfin
    go_enter Try.func20, Try.ntmps20
    go_wp2_with (go_at_call 57; refine (width_all _ _).mono ?_; rw [hw]; rintro e w' ⟨rfl, rfl⟩)
    go_ret2
    exact ⟨by rw [HF.out]; rfl, Below.refl _ _⟩
  | true =>
    obtain ⟨k, rfl, hk, hk1⟩ : ∃ k : Nat, n = k ∧ k ≤ 8 ∧ 1 ≤ k := by
      simp [wide] at hw
      exact ⟨n.toNat, by omega, by omega, by omega⟩
    have h0 : askedM [] at_ k 4 ≠ 0 := by
      unfold askedM
      split
      · decide
      · rw [askTo_nil _ _ _ hk1]; decide
    have hfin : loadM [] at_ k = (0, askedM [] at_ k 4) := by simp [loadM, hw, h0]
    have HF := Lib.hid hfin
    clear hfin
    have h0' : (askedM [] at_ k 4 != 0) = true := by simp [h0]
    clear h0
    go_enter Try.func20, Try.ntmps20
    go_wp2_with (first | (go_at_call 57; refine (width_all _ _).mono ?_; rw [hw]; rintro e w' ⟨rfl, rfl⟩) | (go_at_call 58; refine (asked_nil _ at_ k 4 hat hk1 hk).mono ?_; rintro e w' ⟨rfl, hb⟩))
    go_ret2
    exact ⟨by rw [HF.out]; rfl, hb⟩

theorem allowed6 : allowedB 6 = true := by kernel_rfl

set_option maxHeartbeats 1000000 in
theorem Map_nil_many (w : World) (base size : Nat) (h : ¬ (base % 4096 ≠ 0 ∨ size = 0 ∨ 281474976710656 < base ∨ 281474976710656 - base < size)) (hn : 4096 < mapN size) :
    Calls Try.prog 39 #[.pointer none, .int .u64 base, .int .i64 6, .int .u64 size] w fun e w' => e = .returned (.int .i64 20) ∧ w = w' := by
  obtain ⟨t1, t2, t3, t4, t5, t6⟩ := map_tests h
  have hd : decide ((4096 : Int) < ((size : Int) + 4096 - 1) / 4096) = true := by unfold mapN at hn; exact decide_eq_true (by omega)
  clear h hn
  go_enter Try.func39, Try.ntmps39
  go_wp2_with (go_at_call 55; refine (allowed_all _ _).mono ?_; rw [allowed6]; rintro e w' ⟨rfl, rfl⟩)
  go_ret
  exact ⟨rfl, rfl⟩

set_option maxHeartbeats 1000000 in
theorem Map_nil_ok (w : World) (base size : Nat) (h : ¬ (base % 4096 ≠ 0 ∨ size = 0 ∨ 281474976710656 < base ∨ 281474976710656 - base < size)) (hn : ¬ 4096 < mapN size) :
    Calls Try.prog 39 #[.pointer none, .int .u64 base, .int .i64 6, .int .u64 size] w fun e w' => e = .returned (.int .i64 0) ∧ Below w.heap.size w w' := by
  obtain ⟨t1, t2, t3, t4, t5, t6⟩ := map_tests h
  have hN0 : ((size : Int) + 4096 - 1) / 4096 = (mapN size : Int) := by unfold mapN; omega
  have hN1 : mapN size ≤ 4096 := by omega
  generalize mapN size = N at *
  have hd : decide ((4096 : Int) < ((size : Int) + 4096 - 1) / 4096) = false := decide_eq_false (by omega)
  have HN0 := Lib.hid hN0
  clear h hn hN0
  go_enter Try.func39, Try.ntmps39
  go_wp2_with (go_at_call 55; refine (allowed_all _ _).mono ?_; rw [allowed6]; rintro e w' ⟨rfl, rfl⟩)
  rw [HN0.out]
  go_loopw [50] (fun i wr => ∃ k : Nat, k ≤ N ∧ i = .int .u64 k ∧ Below w.heap.size w wr) (fun i _ => N - (intOf i).toNat)
  case atStart => exact ⟨0, by omega, rfl, Below.refl _ _⟩
  case round =>
    obtain ⟨k, hk, rfl, hB⟩ := hrel
    by_cases hlt : k < N
    · have hd3 : decide ((k : Int) < (N : Int)) = true := by simp; omega
      go_wp2_with (go_at_call 77; refine (there_nil _ _).mono ?_; rintro e w' ⟨rfl, hb⟩)
      go_roundw
      case rel => exact ⟨k + 1, by omega, by go_num, hB.trans (hb.mono hB.size)⟩
      case measure => simp [intOf]; omega
    · have hd3 : decide ((k : Int) < (N : Int)) = false := by simp; omega
      go_wp2
      go_ret
      exact ⟨rfl, hB⟩

theorem Map_nil (w : World) (base size : Nat) (hba : base < 18446744073709551616) (hsi : size < 18446744073709551616) :
    Calls Try.prog 39 #[.pointer none, .int .u64 base, .int .i64 6, .int .u64 size] w fun e w' => e = .returned (.int .i64 (mapE [] base 6 size)) ∧ Below w.heap.size w w' := by
  by_cases hbad : base % 4096 ≠ 0 ∨ size = 0 ∨ 281474976710656 < base ∨ 281474976710656 - base < size
  · refine (Map_arg w _ base size 6 hba hsi hbad).mono ?_
    rintro e w' ⟨rfl, rfl⟩
    exact ⟨by rw [mapE, if_pos hbad], Below.refl _ _⟩
  · by_cases hn : 4096 < mapN size
    · refine (Map_nil_many w base size hbad hn).mono ?_
      rintro e w' ⟨rfl, rfl⟩
      exact ⟨by rw [mapE, if_neg hbad, allowed6, if_neg (by decide), if_pos (by simpa using hn)], Below.refl _ _⟩
    · refine (Map_nil_ok w base size hbad hn).mono ?_
      rintro e w' ⟨rfl, hB⟩
      exact ⟨by rw [mapE, if_neg hbad, allowed6, if_neg (by decide), if_neg (by simpa using hn), anyThere_nil, if_neg (by decide)], hB⟩

theorem rMap2_nil (w : World) (base size : Nat) (hba : base < 18446744073709551616) (hsi : size < 18446744073709551616) :
    Calls Try.prog 40 #[.slice none 0 0, .int .u64 base, .int .i64 6, .int .u64 size] w fun e w' => ∃ A n c, e = .returned (.tuple #[.slice A n c, .int .i64 (mapE [] base 6 size)]) ∧ Below w.heap.size w w' := by
  by_cases hbad : base % 4096 ≠ 0 ∨ size = 0 ∨ 281474976710656 < base ∨ 281474976710656 - base < size
  · refine (rMap2_arg w none 0 0 base size 6 hba hsi hbad).mono ?_
    rintro e w' ⟨rfl, rfl⟩
    exact ⟨_, _, _, by rw [mapE, if_pos hbad], Below.refl _ _⟩
  · by_cases hn : 4096 < mapN size
    · refine (rMap2_many w none 0 0 (by omega) base size 6 hbad allowed6 (by simpa using hn)).mono ?_
      rintro e w' ⟨rfl, rfl⟩
      exact ⟨_, _, _, by rw [mapE, if_neg hbad, allowed6, if_neg (by decide), if_pos (by simpa using hn)], Below.refl _ _⟩
    · refine (rMap2_ok w none 0 0 [] ⟨fun i hi => absurd hi (by simp), by simp, by simp, by simp⟩ rfl (by omega) ⟨by simp, by simp⟩ base size 6 hbad allowed6 (by simpa using hn)).mono ?_
      rintro e w' ⟨hB, ⟨⟨q, hq, _⟩, _⟩ | ⟨_, A', c', qs, rfl, _, _⟩⟩
      · simp at hq
      · exact ⟨_, _, _, by rw [mapE, if_neg hbad, allowed6, if_neg (by decide), if_neg (by simpa using hn), anyThere_nil, if_neg (by decide)], hB⟩

set_option maxRecDepth 20000 in
set_option maxHeartbeats 4000000 in
theorem MemNil_any (w : World) (A : Option Addr) (cap at_ v : Nat) (k : Int) (ps : List PgIn) (hP : PgsAt w.heap.size w A ps) (hat : at_ < 18446744073709551616) (_ : v < 18446744073709551616) (base size : Nat) (hba : base < 18446744073709551616) (hsi : size < 18446744073709551616) :
    Calls Try.prog 13 #[.agg #[.slice A ps.length cap, .int .u64 at_, .int .i64 k, .int .u64 v], .int .u64 base, .int .u64 size] w fun e w' => e = .returned (.bool true) ∧ Below w.heap.size w w' := by
  obtain ⟨W0, hW0⟩ : ∃ W0, W0 = w.alloc (.cells #[.slice A ps.length cap, .int .u64 at_, .int .i64 k, .int .u64 v] 25) := ⟨_, rfl⟩
  have hb0 : Below w.heap.size w W0 := by rw [hW0]; exact (Below.refl _ _).alloc (Nat.le_refl _) _
  have hcc : ∀ w1, Below W0.heap.size W0 w1 → w1.cell? ⟨w.heap.size, 0, none⟩ = some (.slice A ps.length cap) ∧ w1.cell? ⟨w.heap.size, 1, none⟩ = some (.int .u64 at_) ∧ w1.cell? ⟨w.heap.size, 2, none⟩ = some (.int .i64 k) ∧ w1.cell? ⟨w.heap.size, 3, none⟩ = some (.int .u64 v) := by
    rw [hW0]; exact fun w1 h => case_cells _ _ _ _ _ _ h
  have HC := Lib.hid hcc
  have HW := Lib.hid hW0
  clear hcc hW0 hP
  have hnil : PsOK ([] : List Pgd) := ⟨by simp, by simp⟩
  have HN := Lib.hid hnil
  clear hnil
  go_enter Try.func13, Try.ntmps13
  go_upto_region 2 with fail
  rw [← HW.out]
  go_wp2_with fail
  refine Calls.mono (Map_nil W0 base size hba hsi) ?_
  rintro e w1 ⟨rfl, hB1⟩
  go_wp2_with fail
  refine Calls.mono (rMap2_nil w1 base size hba hsi) ?_
  rintro e w2 ⟨Ar, nr, cr, rfl, hB2⟩
  have hb2 := hB1.trans (hB2.mono hB1.size)
  obtain ⟨c0, c1, c2, c3⟩ := HC.out w2 hb2
  go_wp2_with fail
  refine Calls.mono (Load_nil w2 at_ k hat) ?_
  rintro e w3 ⟨rfl, hB3⟩
  have hb3 := hb2.trans (hB3.mono hb2.size)
  clear c0 c1 c2 c3
  obtain ⟨c0, c1, c2, c3⟩ := HC.out w3 hb3
  go_wp2_with fail
  refine Calls.mono (rLoad2_any w3 none 0 0 at_ k [] [] ⟨fun i hi => absurd hi (by simp), by simp, by simp, by simp⟩ rfl rfl HN.out hat) ?_
  rintro e w4 ⟨rfl, hB4⟩
  have hb4 := hb3.trans (hB4.mono hb3.size)
  clear c0 c1 c2 c3
  generalize mapE [] base 6 size = me at *
  generalize loadM [] at_ k = r8 at *
  obtain ⟨v8, e8⟩ := r8
  go_wp2_with fail
  refine Calls.mono (Clone_any none [] (by simp) w4 (.inl ⟨rfl, rfl⟩)) ?_
  rintro e w5 ⟨p2, mb2, gs, rfl, hG, hp2, hmb2, hge2, hgs, hB5⟩
  have hb5 := hb4.trans (hB5.mono hb4.size)
  obtain rfl : gs = [] := by simpa [sortF] using hgs
  clear hgs
  go_wp2_with fail
  refine Calls.mono (Pages_any none [] (by simp) w5 (.inl ⟨rfl, rfl⟩)) ?_
  rintro e w6 ⟨v6, ss, rfl, ho, he, hB6⟩
  obtain rfl : ss = [] := by simpa [sortF] using he
  obtain ⟨A6, c6, rfl, -⟩ := ho.row.form
  have hb6 := hb5.trans (hB6.mono hb5.size)
  have hG6 := hG.below hG.lt hB6
  clear he ho
  go_wp2_with fail
  refine Calls.mono (Same_any w6 none _ [] [] (.inl ⟨rfl, rfl⟩) hG6.memN (by simp) rfl) ?_
  rintro e w7 ⟨rfl, hB7⟩
  have hb7 := hb6.trans (hB7.mono hb6.size)
  have hfin : Below w.heap.size w w7 := hb0.trans (hb7.mono hb0.size)
  go_wp2_with (go_at_call 19; refine (speaks2_true _).mono ?_; rintro e w8 ⟨rfl, hB8⟩)
  go_ret
  exact ⟨rfl, hfin.trans (hB8.mono hfin.size)⟩
end Go.Proofs
