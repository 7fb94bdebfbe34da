/- patinalaw02.MemFrom: the walk. -/
import Derived.Test.YtkgnodlhdilmoaaSameM
import Derived.Test.YtkgnodlhdilmoaaWrong2
namespace Go.Proofs
open Go Go.RowKit Go.Pat

theorem few_of {ps : List PgIn} (h0 : fromE (ps.map PgIn.pg) = 0) : ps.length ≤ 4096 := by
  have h1 : ¬ 4096 < (ps.map PgIn.pg).length := fun h => by unfold fromE at h0; rw [if_pos h] at h0; cases h0
  simp at h1
  exact h1

set_option maxRecDepth 20000 in
set_option maxHeartbeats 4000000 in
theorem MemFrom_any (w : World) (A : Option Addr) (cap : Nat) (ps : List PgIn) (hP : PgsAt w.heap.size w A ps) :
    Calls Try.prog 15 #[.slice A ps.length cap] w fun e w' => e = .returned (.bool true) ∧ Below w.heap.size w w' := by
  go_enter Try.func15, Try.ntmps15
  go_wp2_with fail
  refine (From_all _ A cap ps hP).mono ?_
  intro e w1 hF
  rcases hF with ⟨h0, p, mb, fs, rfl, hfs, hM, hp, hmb, hge, hB⟩ | ⟨h0, rfl, hB⟩
  · have hok := psOK_of h0
    have hpl := few_of h0
    have hfl : fs.length ≤ 90000 := by have h2 := congrArg List.length hfs; simp at h2; omega
    have HN := Lib.hid (And.intro h0 (And.intro hfs (And.intro hok hfl)))
    clear h0 hfs hok hpl hfl
    have hP1 := (hP.below hB).mono hB.size
    go_wp2_with fail
    refine Calls.mono (rWrong2_any w1 A cap ps.length ps hP1 rfl) ?_
    rintro e w2 ⟨rfl, hB2⟩
    rw [HN.out.1]
    have hb2 := hB.trans (hB2.mono hB.size)
    have hM2 := hM.below hM.lt hB2
    go_wp2_with fail
    refine Calls.mono (speaks2_true w2) ?_
    rintro e w3 ⟨rfl, hB3⟩
    have hb3 := hb2.trans (hB3.mono hb2.size)
    have hM3 := hM2.below hM2.lt hB3
    go_wp2_with fail
    refine Calls.mono (Clone_any (some ⟨p, 0, none⟩) fs HN.out.2.2.2 w3 hM3.memN) ?_
    rintro e w4 ⟨p2, mb2, gs, rfl, hG, hp2, hmb2, hge2, hgs, hB4⟩
    have hb4 := hb3.trans (hB4.mono hb3.size)
    have hM4 := hM3.below hM3.lt hB4
    have HG := Lib.hid hgs
    clear hgs
    go_wp2_with fail
    refine Calls.mono (same2_any w4 _ fs A ps.length cap ps hM4.memN ((hP.below hb4).mono hb4.size) rfl HN.out.2.2.2 (sortF_ok HN.out.2.1 HN.out.2.2.1)) ?_
    rintro e w5 ⟨rfl, hB5⟩
    have hb5 := hb4.trans (hB5.mono hb4.size)
    have hM5 := hM4.below hM4.lt hB5
    have hG5 := hG.below hG.lt hB5
    have hgok : (sortF gs).map Fr.pg = ps.map PgIn.pg := sortF_ok (HG.out.trans (sortF_ok HN.out.2.1 HN.out.2.2.1)) HN.out.2.2.1
    have hgl : gs.length ≤ 90000 := by have h2 := congrArg List.length HG.out; simp [sortF_length] at h2; have := HN.out.2.2.2; omega
    have HK := Lib.hid (And.intro hgok hgl)
    clear hgok hgl
    go_wp2_with fail
    refine Calls.mono (Same_any w5 _ _ fs gs hM5.memN hG5.memN HN.out.2.2.2 (by rw [HK.out.1]; exact sortF_ok HN.out.2.1 HN.out.2.2.1)) ?_
    rintro e w6 ⟨rfl, hB6⟩
    have hb6 := hb5.trans (hB6.mono hb5.size)
    have hG6 := hG5.below hG5.lt hB6
    go_wp2_with fail
    refine Calls.mono (same2_any w6 _ gs A ps.length cap ps hG6.memN ((hP.below hb6).mono hb6.size) rfl HK.out.2 HK.out.1) ?_
    rintro e w7 ⟨rfl, hB7⟩
    have hb7 := hb6.trans (hB7.mono hb6.size)
    go_wp2
    go_ret
    exact ⟨rfl, hb7⟩
  · have hP1 := (hP.below hB).mono hB.size
    have hd : (fromE (ps.map PgIn.pg) != 0) = true := by simpa using h0
    have hd2 : (fromE (ps.map PgIn.pg) != fromE (ps.map PgIn.pg)) = false := by simp
    go_wp2_with fail
    refine Calls.mono (rWrong2_any w1 A cap ps.length ps hP1 rfl) ?_
    rintro e w2 ⟨rfl, hB2⟩
    have hb2 := hB.trans (hB2.mono hB.size)
    go_wp2_with fail
    refine Calls.mono (speaks2_true w2) ?_
    rintro e w3 ⟨rfl, hB3⟩
    have hb3 := hb2.trans (hB3.mono hb2.size)
    go_wp2
    go_ret
    exact ⟨rfl, hb3⟩
end Go.Proofs
