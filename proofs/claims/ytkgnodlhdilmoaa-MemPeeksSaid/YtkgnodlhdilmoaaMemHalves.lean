/- patinalaw02.MemHalves: the walk. -/
import Derived.Test.YtkgnodlhdilmoaaMemTop
namespace Go.Pat
open Go Go.RowKit Go.Proofs

theorem numM_8 (fs : List Fr) (a : Nat) : numM fs a 8 = numM fs a 4 + numM fs (a + 4) 4 * 4294967296 := by
  have e : numM fs a 8 = numM fs a 4 + (byteM fs (a + 4) * 256 ^ 4 + byteM fs (a + 5) * 256 ^ 5 + byteM fs (a + 6) * 256 ^ 6 + byteM fs (a + 7) * 256 ^ 7) := by simp only [numM]; omega
  have e2 : numM fs (a + 4) 4 = byteM fs (a + 4) + byteM fs (a + 5) * 256 + byteM fs (a + 6) * 256 ^ 2 + byteM fs (a + 7) * 256 ^ 3 := by simp only [numM]; simp only [Nat.add_assoc]; simp
  rw [e, e2]
  omega
theorem askTo_le {fs : List Fr} {a : Nat} {perm : Int} {k n : Nat} (hk : k ≤ n) (h : askTo fs a perm n = 0) : askTo fs a perm k = 0 := by
  induction n with
  | zero => obtain rfl : k = 0 := by omega
            exact h
  | succ n ih =>
    by_cases e : k = n + 1
    · rw [e]; exact h
    · apply ih (by omega)
      simp only [askTo] at h
      split at h
      · cases h
      · split at h
        · cases h
        · split at h
          · exact h
          · cases h
theorem askTo_of {fs : List Fr} {a : Nat} {perm : Int} {n : Nat} (h : ∀ i, i < n → ∃ f, pageOf fs (a + i) = some f ∧ pOK f.perm perm = true) : askTo fs a perm n = 0 := by
  induction n with
  | zero => rfl
  | succ n ih =>
    obtain ⟨f, h1, h2⟩ := h n (by omega)
    simp [askTo, ih (fun i hi => h i (by omega)), h1, h2]
/-- the memory reads eight bytes so, and its halves so. -/
theorem halves (fs : List Fr) (a : Nat) (ha : a < 140737488355328) :
    ((loadM fs a 8).2 ≠ 0 ∧ (loadM fs a 8).1 = 0 ∧ ((loadM fs a 4).2 ≠ 0 ∨ (loadM fs (a + 4) 4).2 ≠ 0)) ∨
    ((loadM fs a 8).2 = 0 ∧ (loadM fs a 4).2 = 0 ∧ (loadM fs (a + 4) 4).2 = 0 ∧ (loadM fs a 8).1 = (loadM fs a 4).1 + (loadM fs (a + 4) 4).1 * 4294967296 ∧ (loadM fs a 4).1 < 4294967296 ∧ (loadM fs (a + 4) 4).1 < 4294967296) := by
  have w8 : wide 8 = true := rfl
  have w4 : wide 4 = true := rfl
  have t8 : Int.toNat 8 = 8 := rfl
  have t4 : Int.toNat 4 = 4 := rfl
  have q8 : askedM fs a 8 4 = askTo fs a 4 8 := by unfold askedM; rw [if_neg (by omega)]
  have q4 : askedM fs a 4 4 = askTo fs a 4 4 := by unfold askedM; rw [if_neg (by omega)]
  have q5 : askedM fs (a + 4) 4 4 = askTo fs (a + 4) 4 4 := by unfold askedM; rw [if_neg (by omega)]
  simp only [loadM, w8, w4, t8, t4, if_true, q8, q4, q5]
  have n1 := numM_lt fs a 4
  have n2 := numM_lt fs (a + 4) 4
  by_cases h : askTo fs a 4 8 = 0
  · have hp := asked_ok h
    have h4 : askTo fs a 4 4 = 0 := askTo_of fun i hi => hp i (by omega)
    have h5 : askTo fs (a + 4) 4 4 = 0 := askTo_of fun i hi => by
      have := hp (4 + i) (by omega)
      rwa [← Nat.add_assoc] at this
    right
    simp only [h, h4, h5, if_true]
    exact ⟨trivial, trivial, trivial, numM_8 fs a, n1, n2⟩
  · left
    rw [if_neg h]
    refine ⟨h, rfl, ?_⟩
    by_cases h4 : askTo fs a 4 4 = 0
    · right
      by_cases h5 : askTo fs (a + 4) 4 4 = 0
      · refine absurd (askTo_of fun i hi => ?_) h
        by_cases hi4 : i < 4
        · exact asked_ok h4 i hi4
        · have := asked_ok h5 (i - 4) (by omega)
          rwa [show a + 4 + (i - 4) = a + i by omega] at this
      · rw [if_neg h5]; exact h5
    · left
      rw [if_neg h4]; exact h4
end Go.Pat
namespace Go.Proofs
open Go Go.RowKit Go.Pat

set_option maxHeartbeats 2000000 in
theorem MemHalves_any (w : World) (A : Option Addr) (cap at_ v : Nat) (k : Int) (ps : List PgIn) (hP : PgsAt w.heap.size w A ps) (hat : at_ < 18446744073709551616) (hv : v < 18446744073709551616) :
    Calls Try.prog 3 #[.agg #[.slice A ps.length cap, .int .u64 at_, .int .i64 k, .int .u64 v]] w fun e w' => e = .returned (.bool true) ∧ Below w.heap.size w w' := by
  have hb0 : Below w.heap.size w (w.alloc (.cells #[.slice A ps.length cap, .int .u64 at_, .int .i64 k, .int .u64 v] 25)) := (Below.refl _ _).alloc (Nat.le_refl _) _
  have hP0 : PgsAt (w.alloc (.cells #[.slice A ps.length cap, .int .u64 at_, .int .i64 k, .int .u64 v] 25)).heap.size (w.alloc (.cells #[.slice A ps.length cap, .int .u64 at_, .int .i64 k, .int .u64 v] 25)) A ps := PgsAt.mono (hP.below hb0) hb0.size
  go_enter Try.func3, Try.ntmps3
  go_wp2_with fail
  refine (From_all _ A cap ps hP0).mono ?_
  intro e w1 hF
  rcases hF with ⟨h0, p, mb, fs, rfl, hfs, hM, hp, hmb, hge, hB⟩ | ⟨h0, rfl, hB⟩
  · obtain ⟨c0, c1, c2, c3⟩ := case_cells _ _ _ _ _ _ hB
    by_cases hlim : 140737488355328 ≤ at_
    · have hd : decide ((140737488355328 : Int) ≤ (at_ : Int)) = true := by simp; omega
      go_wp2_with (go_at_call 19; refine (speaks2_true _).mono ?_; rintro e w2 ⟨rfl, hB2⟩)
      go_ret
      exact ⟨rfl, (hb0.trans (hB.mono hb0.size)).trans (hB2.mono (Nat.le_trans hb0.size hB.size))⟩
    · have hd : decide ((140737488355328 : Int) ≤ (at_ : Int)) = false := by simp; omega
      have hw4 : IntKind.u64.wrap ((at_ : Int) + 4) = ((at_ + 4 : Nat) : Int) := by rw [IntKind.wrap_u64]; omega
      have HH := halves fs at_ (by omega)
      go_wp2_with fail
      refine (Load_any _ p mb fs hM at_ 8 hat).mono ?_
      rintro e w2 ⟨rfl, hB2⟩
      have hb2 := (hB.trans (hB2.mono hB.size))
      obtain ⟨c0, c1, c2, c3⟩ := case_cells _ _ _ _ _ _ hb2
      have hM2 := hM.below hM.lt hB2
      go_wp2_with fail
      refine (Load_any _ p mb fs hM2 at_ 4 hat).mono ?_
      rintro e w3 ⟨rfl, hB3⟩
      have hb3 := (hb2.trans (hB3.mono hb2.size))
      obtain ⟨c0, c1, c2, c3⟩ := case_cells _ _ _ _ _ _ hb3
      have hM3 := hM2.below hM2.lt hB3
      go_wp2_with fail
      refine (Load_any _ p mb fs hM3 (at_ + 4) 4 (by omega)).mono ?_
      rintro e w4 ⟨rfl, hB4⟩
      have hb4 := (hb3.trans (hB4.mono hb3.size))
      obtain ⟨c0, c1, c2, c3⟩ := case_cells _ _ _ _ _ _ hb4
      generalize loadM fs at_ 8 = r8 at *
      generalize loadM fs at_ 4 = r4 at *
      generalize loadM fs (at_ + 4) 4 = r5 at *
      have hfin : Below w.heap.size w w4 := hb0.trans (hb4.mono hb0.size)
      clear c0 c1 c2 c3 hb4 hb3 hb2 hB4 hB3 hB2 hM3 hM2
      obtain ⟨v8, e8⟩ := r8
      obtain ⟨v4, e4⟩ := r4
      obtain ⟨v5, e5⟩ := r5
      simp only [] at HH
      rcases HH with ⟨h8, rfl, h45⟩ | ⟨rfl, rfl, rfl, h8, l4, l5⟩
      · have n8 : (e8 != 0) = true := by simpa using h8
        by_cases h4 : e4 = 0
        · have n4 : (e4 != 0) = false := by simpa using h4
          have n5 : (e5 != 0) = true := by simp only [bne_iff_ne]; rcases h45 with h | h; exact absurd h4 h; exact h
          clear h8 h4 h45
          go_wp2_with (go_at_call 19; refine (speaks2_true _).mono ?_; rintro e w5 ⟨rfl, hB5⟩)
          go_ret
          exact ⟨rfl, hfin.trans (hB5.mono hfin.size)⟩
        · have n4 : (e4 != 0) = true := by simpa using h4
          clear h8 h4 h45
          go_wp2_with (go_at_call 19; refine (speaks2_true _).mono ?_; rintro e w5 ⟨rfl, hB5⟩)
          go_ret
          exact ⟨rfl, hfin.trans (hB5.mono hfin.size)⟩
      · have e1 : IntKind.u64.wrap ((v5 : Int) * 2 ^ 32) = ((v5 * 4294967296 : Nat) : Int) := by rw [IntKind.wrap_u64]; omega
        have e2 : IntKind.u64.wrap ((v4 : Int) + ((v5 * 4294967296 : Nat) : Int)) = ((v8 : Nat) : Int) := by rw [IntKind.wrap_u64]; omega
        go_wp2_with (go_at_call 19; refine (speaks2_true _).mono ?_; rintro e w5 ⟨rfl, hB5⟩)
        trace_state
        go_ret
        exact ⟨rfl, hfin.trans (hB5.mono hfin.size)⟩
  · have hd : (fromE (ps.map PgIn.pg) != 0) = true := by simpa using h0
    go_wp2_with (go_at_call 19; refine (speaks2_true _).mono ?_; rintro e w2 ⟨rfl, hB2⟩)
    go_ret
    exact ⟨rfl, (hb0.trans (hB.mono hb0.size)).trans (hB2.mono (Nat.le_trans hb0.size hB.size))⟩
end Go.Proofs
