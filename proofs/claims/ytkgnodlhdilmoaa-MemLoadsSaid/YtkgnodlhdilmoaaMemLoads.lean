/- patinalaw02.MemLoads: the walk. -/
import Derived.Test.YtkgnodlhdilmoaaSame2
import Derived.Test.YtkgnodlhdilmoaaMemTop
import Derived.Test.YtkgnodlhdilmoaaFetchs
namespace Go.Proofs
open Go Go.RowKit Go.Pat

set_option maxRecDepth 20000 in
set_option maxHeartbeats 4000000 in
theorem MemLoads_any (w : World) (A : Option Addr) (cap at_ v : Nat) (k : Int) (ps : List PgIn) (hP : PgsAt w.heap.size w A ps) (hat : at_ < 18446744073709551616) (hv : v < 18446744073709551616) :
    Calls Try.prog 12 #[.agg #[.slice A ps.length cap, .int .u64 at_, .int .i64 k, .int .u64 v]] w fun e w' => e = .returned (.bool true) ∧ Below w.heap.size w w' := by
  have hb0 : Below w.heap.size w (w.alloc (.cells #[.slice A ps.length cap, .int .u64 at_, .int .i64 k, .int .u64 v] 25)) := (Below.refl _ _).alloc (Nat.le_refl _) _
  have hP0 : PgsAt (w.alloc (.cells #[.slice A ps.length cap, .int .u64 at_, .int .i64 k, .int .u64 v] 25)).heap.size (w.alloc (.cells #[.slice A ps.length cap, .int .u64 at_, .int .i64 k, .int .u64 v] 25)) A ps := PgsAt.mono (hP.below hb0) hb0.size
  go_enter Try.func12, Try.ntmps12
  go_wp2_with fail
  refine (From_all _ A cap ps hP0).mono ?_
  intro e w1 hF
  rcases hF with ⟨h0, p, mb, fs, rfl, hfs, hM, hp, hmb, hge, hB⟩ | ⟨h0, rfl, hB⟩
  · have hok := psOK_of h0
    have hlen : fs.length ≤ 90000 := by
      have h1 : ¬ 4096 < (ps.map PgIn.pg).length := fun h => by unfold fromE at h0; rw [if_pos h] at h0; cases h0
      have h2 := congrArg List.length hfs
      simp at h1 h2
      omega
    obtain ⟨c0, c1, c2, c3⟩ := case_cells _ _ _ _ _ _ hB
    have HN := Lib.hid (And.intro h0 (And.intro hfs hok))
    clear h0 hfs hok
    go_wp2_with fail
    refine (Load_any _ p mb fs hM at_ k hat).mono ?_
    rintro e w2 ⟨rfl, hB2⟩
    have hb2 := (hB.trans (hB2.mono hB.size))
    obtain ⟨c0, c1, c2, c3⟩ := case_cells _ _ _ _ _ _ hb2
    have hM2 := hM.below hM.lt hB2
    go_wp2_with fail
    refine (rLoad2_any w2 A cap ps.length at_ k ps fs ((hP0.below hb2).mono hb2.size) rfl HN.out.2.1 HN.out.2.2 hat).mono ?_
    rintro e w3 ⟨rfl, hB3⟩
    have hb3 := (hb2.trans (hB3.mono hb2.size))
    obtain ⟨c0, c1, c2, c3⟩ := case_cells _ _ _ _ _ _ hb3
    have hM3 := hM2.below hM2.lt hB3
    go_wp2_with fail
    refine (Fetch_any _ p mb fs hM3 at_ hat).mono ?_
    rintro e w4 ⟨rfl, hB4⟩
    have hb4 := (hb3.trans (hB4.mono hb3.size))
    obtain ⟨c0, c1, c2, c3⟩ := case_cells _ _ _ _ _ _ hb4
    have hM4 := hM3.below hM3.lt hB4
    go_wp2_with fail
    refine (rFetch2_any w4 A cap ps.length at_ ps fs ((hP0.below hb4).mono hb4.size) rfl HN.out.2.1 HN.out.2.2 hat).mono ?_
    rintro e w5 ⟨rfl, hB5⟩
    have hb5 := (hb4.trans (hB5.mono hb4.size))
    obtain ⟨c0, c1, c2, c3⟩ := case_cells _ _ _ _ _ _ hb5
    have hM5 := hM4.below hM4.lt hB5
    generalize loadM fs at_ k = r8 at *
    generalize fetchM fs at_ = r4 at *
    obtain ⟨v8, e8⟩ := r8
    obtain ⟨v4, e4⟩ := r4
    go_wp2_with fail
    refine (same2_any w5 _ fs A ps.length cap ps hM5.memN ((hP0.below hb5).mono hb5.size) rfl hlen (sortF_ok HN.out.2.1 HN.out.2.2)).mono ?_
    rintro e w6 ⟨rfl, hB6⟩
    have hfin : Below w.heap.size w w6 := (hb0.trans (hb5.mono hb0.size)).trans (hB6.mono (Nat.le_trans hb0.size hb5.size))
    go_wp2_with (go_at_call 19; refine (speaks2_true _).mono ?_; rintro e w7 ⟨rfl, hB7⟩)
    go_ret
    exact ⟨rfl, hfin.trans (hB7.mono hfin.size)⟩
  · have hd : (fromE (ps.map PgIn.pg) != 0) = true := by simpa using h0
    go_wp2_with (go_at_call 19; refine (speaks2_true _).mono ?_; rintro e w2 ⟨rfl, hB2⟩)
    go_ret
    exact ⟨rfl, (hb0.trans (hB.mono hb0.size)).trans (hB2.mono (Nat.le_trans hb0.size hB.size))⟩
end Go.Proofs
