/- patinalaw02.MemMapped: the walk. -/
import Derived.Test.YtkgnodlhdilmoaaMapP
namespace Go.Proofs
open Go Go.RowKit Go.Pat

set_option maxRecDepth 20000 in
set_option maxHeartbeats 8000000 in
theorem MemMapped_any (w : World) (A : Option Addr) (cap base size : Nat) (perm : Int) (ps : List PgIn) (hP : PgsAt w.heap.size w A ps) (hba : base < 18446744073709551616) (hsi : size < 18446744073709551616) :
    Calls Try.prog 11 #[.agg #[.slice A ps.length cap, .int .u64 base, .int .i64 perm, .int .u64 size]] w fun e w' => e = .returned (.bool true) ∧ Below w.heap.size w w' := by
  obtain ⟨W0, hW0⟩ : ∃ W0, W0 = w.alloc (.cells #[.slice A ps.length cap, .int .u64 base, .int .i64 perm, .int .u64 size] 76) := ⟨_, rfl⟩
  have hb0 : Below w.heap.size w W0 := by rw [hW0]; exact (Below.refl _ _).alloc (Nat.le_refl _) _
  have hP0 : PgsAt W0.heap.size W0 A ps := PgsAt.mono (hP.below hb0) hb0.size
  have hcc : ∀ w1, Below W0.heap.size W0 w1 → w1.cell? ⟨w.heap.size, 0, none⟩ = some (.slice A ps.length cap) ∧ w1.cell? ⟨w.heap.size, 1, none⟩ = some (.int .u64 base) ∧ w1.cell? ⟨w.heap.size, 2, none⟩ = some (.int .i64 perm) ∧ w1.cell? ⟨w.heap.size, 3, none⟩ = some (.int .u64 size) := by
    rw [hW0]; exact fun w1 h => case_cells _ _ _ _ _ _ h
  obtain ⟨c0, c1, c2, c3⟩ := hcc W0 (Below.refl _ _)
  have HC := Lib.hid hcc
  have HW := Lib.hid hW0
  clear hcc hW0
  go_enter Try.func11, Try.ntmps11
  go_upto_region 1 with fail
  rw [← HW.out]
  go_wp2_with fail
  refine (From_all _ A cap ps hP0).mono ?_
  intro e w1 hF
  clear c0 c1 c2 c3
  rcases hF with ⟨h0, p, mb, fs, rfl, hfs, hM, hp, hmb, hge, hB⟩ | ⟨h0, rfl, hB⟩
  · have hok := psOK_of h0
    have hpl : ps.length ≤ 4096 := by
      have h1 : ¬ 4096 < (ps.map PgIn.pg).length := fun h => by unfold fromE at h0; rw [if_pos h] at h0; cases h0
      simp at h1
      exact h1
    have hfl : fs.length = ps.length := by have h2 := congrArg List.length hfs; simpa using h2
    obtain ⟨c0, c1, c2, c3⟩ := HC.out w1 hB
    have HN := Lib.hid (And.intro h0 (And.intro hfs (And.intro hok (And.intro hpl hfl))))
    clear h0 hfs hok hpl hfl
    by_cases hbad : base % 4096 ≠ 0 ∨ size = 0 ∨ 281474976710656 < base ∨ 281474976710656 - base < size
    · have HB := Lib.hid hbad
      clear hbad
      go_wp2_with fail
      refine Calls.mono (Map_arg w1 _ base size perm hba hsi HB.out) ?_
      rintro e w2 ⟨rfl, rfl⟩
      go_wp2_with fail
      refine Calls.mono (rMap2_arg w1 A ps.length cap base size perm hba hsi HB.out) ?_
      rintro e w3 ⟨rfl, rfl⟩
      go_wp2_with fail
      refine (same2_any w1 _ fs A ps.length cap ps hM.memN ((hP0.below hB).mono hB.size) rfl (by have := HN.out.2.2.2; omega) (sortF_ok HN.out.2.1 HN.out.2.2.1)).mono ?_
      rintro e w8 ⟨rfl, hB8⟩
      have hfin : Below w.heap.size w w8 := (hb0.trans (hB.mono hb0.size)).trans (hB8.mono (Nat.le_trans hb0.size hB.size))
      go_wp2_with (go_at_call 19; refine (speaks2_true _).mono ?_; rintro e w9 ⟨rfl, hB9⟩)
      go_ret
      exact ⟨rfl, hfin.trans (hB9.mono hfin.size)⟩
    · have HB := Lib.hid hbad
      clear hbad
      cases ha : allowedB perm with
      | false =>
        have HA := Lib.hid ha
        clear ha
        go_wp2_with fail
        refine Calls.mono (Map_perm w1 _ base size perm HB.out HA.out) ?_
        rintro e w2 ⟨rfl, rfl⟩
        go_wp2_with fail
        refine Calls.mono (rMap2_perm w1 A ps.length cap base size perm HB.out HA.out) ?_
        rintro e w3 ⟨rfl, rfl⟩
        go_wp2_with fail
        refine (same2_any w1 _ fs A ps.length cap ps hM.memN ((hP0.below hB).mono hB.size) rfl (by have := HN.out.2.2.2; omega) (sortF_ok HN.out.2.1 HN.out.2.2.1)).mono ?_
        rintro e w8 ⟨rfl, hB8⟩
        have hfin : Below w.heap.size w w8 := (hb0.trans (hB.mono hb0.size)).trans (hB8.mono (Nat.le_trans hb0.size hB.size))
        go_wp2_with (go_at_call 19; refine (speaks2_true _).mono ?_; rintro e w9 ⟨rfl, hB9⟩)
        go_ret
        exact ⟨rfl, hfin.trans (hB9.mono hfin.size)⟩
      | true =>
        have HA := Lib.hid ha
        clear ha
        by_cases hn : 4096 - ps.length < mapN size
        · have HM := Lib.hid hn
          clear hn
          go_wp2_with fail
          refine Calls.mono (Map_many w1 p mb fs hM (by have := HN.out.2.2.2; omega) base size perm HB.out HA.out (by have := HN.out.2.2.2.2; rw [this]; exact HM.out)) ?_
          rintro e w2 ⟨rfl, rfl⟩
          go_wp2_with fail
          refine Calls.mono (rMap2_many w1 A ps.length cap HN.out.2.2.2.1 base size perm HB.out HA.out HM.out) ?_
          rintro e w3 ⟨rfl, rfl⟩
          go_wp2_with fail
          refine (same2_any w1 _ fs A ps.length cap ps hM.memN ((hP0.below hB).mono hB.size) rfl (by have := HN.out.2.2.2; omega) (sortF_ok HN.out.2.1 HN.out.2.2.1)).mono ?_
          rintro e w8 ⟨rfl, hB8⟩
          have hfin : Below w.heap.size w w8 := (hb0.trans (hB.mono hb0.size)).trans (hB8.mono (Nat.le_trans hb0.size hB.size))
          go_wp2_with (go_at_call 19; refine (speaks2_true _).mono ?_; rintro e w9 ⟨rfl, hB9⟩)
          go_ret
          exact ⟨rfl, hfin.trans (hB9.mono hfin.size)⟩
        · have HM := Lib.hid hn
          have hb4 : base % 4096 = 0 := by have := HB.out; omega
          have hn1 : 1 ≤ mapN size := by have := HB.out; unfold mapN; omega
          have hiff := inMap_iff (n := mapN size) HN.out.2.1 HN.out.2.2.1 hb4
          have HI := Lib.hid (And.intro hiff hn1)
          clear hn hb4 hn1 hiff
          cases hth : anyThere fs base (mapN size) with
          | true =>
            have HT := Lib.hid hth
            clear hth
            go_wp2_with fail
            refine Calls.mono (Map_there w1 p mb fs hM (by have := HN.out.2.2.2; omega) base size perm HB.out HA.out (by have := HN.out.2.2.2.2; rw [this]; exact HM.out) HT.out) ?_
            rintro e w2 ⟨rfl, hB2⟩
            have hb2 := hB.trans (hB2.mono hB.size)
            obtain ⟨d0, d1, d2, d3⟩ := HC.out w2 hb2
            have hM2 := hM.below hM.lt hB2
            clear c0 c1 c2 c3
            go_wp2_with fail
            refine Calls.mono (rMap2_ok w2 A ps.length cap ps ((hP0.below hb2).mono hb2.size) rfl HN.out.2.2.2.1 HN.out.2.2.1 base size perm HB.out HA.out HM.out) ?_
            rintro e w3 ⟨hB3, ⟨_, rfl⟩ | ⟨hno, _⟩⟩
            · have hb3 := hb2.trans (hB3.mono hb2.size)
              have hM3 := hM2.below hM2.lt hB3
              go_wp2_with fail
              refine (same2_any w3 _ fs A ps.length cap ps hM3.memN ((hP0.below hb3).mono hb3.size) rfl (by have := HN.out.2.2.2; omega) (sortF_ok HN.out.2.1 HN.out.2.2.1)).mono ?_
              rintro e w8 ⟨rfl, hB8⟩
              have hfin : Below w.heap.size w w8 := (hb0.trans (hb3.mono hb0.size)).trans (hB8.mono (Nat.le_trans hb0.size hb3.size))
              go_wp2_with (go_at_call 19; refine (speaks2_true _).mono ?_; rintro e w9 ⟨rfl, hB9⟩)
              go_ret
              exact ⟨rfl, hfin.trans (hB9.mono hfin.size)⟩
            · obtain ⟨q, hq, hin⟩ := HI.out.1.1 HT.out
              exact absurd hin (hno q hq)
          | false =>
            have HT := Lib.hid hth
            clear hth
            go_wp2_with fail
            refine Calls.mono (Map_ok w1 p mb fs hM (by have := HN.out.2.2.2; omega) base size perm HB.out HA.out (by have := HN.out.2.2.2.2; rw [this]; exact HM.out) HT.out) ?_
            rintro e w2 ⟨rfl, news, hnews, hM2, hge2, hK2⟩
            have hb2 : Below W0.heap.size W0 w2 := hB.trans (hK2.below hB.size (by rintro b rfl; exact hmb))
            obtain ⟨d0, d1, d2, d3⟩ := HC.out w2 hb2
            have HX := Lib.hid hnews
            clear c0 c1 c2 c3 hnews hK2 hM
            go_wp2_with fail
            refine Calls.mono (rMap2_ok w2 A ps.length cap ps ((hP0.below hb2).mono hb2.size) rfl HN.out.2.2.2.1 HN.out.2.2.1 base size perm HB.out HA.out HM.out) ?_
            rintro e w3 ⟨hB3, ⟨⟨q, hq, hin⟩, _⟩ | ⟨hno, A', c', qs, rfl, hP', hqs⟩⟩
            · have := HI.out.1.2 ⟨q, hq, hin⟩
              rw [HT.out] at this
              cases this
            · have hb3 := hb2.trans (hB3.mono hb2.size)
              have hM3 := hM2.below hM2.lt hB3
              have hls : (fs ++ news).length ≤ 90000 := by
                have h1 := congrArg List.length HX.out
                simp [fresh] at h1
                have h2 := HM.out
                have h3 := HN.out.2.2.2
                simp
                omega
              have HE := Lib.hid (show (sortF (fs ++ news)).map Fr.pg = qs.map PgIn.pg by
                rw [hqs]
                exact map_same HN.out.2.1 HN.out.2.2.1 HX.out hM3.keys hno HI.out.2)
              clear hqs hno
              go_wp2_with fail
              refine (same2_any w3 _ (fs ++ news) A' qs.length c' qs hM3.memN hP' rfl hls HE.out).mono ?_
              rintro e w8 ⟨rfl, hB8⟩
              have hfin : Below w.heap.size w w8 := (hb0.trans (hb3.mono hb0.size)).trans (hB8.mono (Nat.le_trans hb0.size hb3.size))
              go_wp2_with (go_at_call 19; refine (speaks2_true _).mono ?_; rintro e w9 ⟨rfl, hB9⟩)
              go_ret
              exact ⟨rfl, hfin.trans (hB9.mono hfin.size)⟩
  · have hd : (fromE (ps.map PgIn.pg) != 0) = true := by simpa using h0
    go_wp2_with (go_at_call 19; refine (speaks2_true _).mono ?_; rintro e w2 ⟨rfl, hB2⟩)
    go_ret
    exact ⟨rfl, (hb0.trans (hB.mono hb0.size)).trans (hB2.mono (Nat.le_trans hb0.size hB.size))⟩
end Go.Proofs
