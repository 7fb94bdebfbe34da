/- patinaref02.Wrong: what is wrong with pages: as mem.From says. -/
import Derived.Test.YtkgnodlhdilmoaaFetchs
import Derived.Test.YtkgnodlhdilmoaaElfChk
import Derived.BigQuiet
namespace Go.Proofs
open Go Go.RowKit Go.Pat

set_option maxRecDepth 20000 in
set_option maxHeartbeats 4000000 in
theorem rWrong2_any (w : World) (A : Option Addr) (cap n : Nat) (ps : List PgIn) (hP : PgsAt w.heap.size w A ps) (hn : ps.length = n) :
    Calls Try.prog 49 #[.slice A n cap] w fun e w' => e = .returned (.int .i64 (fromE (ps.map PgIn.pg))) ∧ Below w.heap.size w w' := by
  subst hn
  by_cases hbig : 4096 < ps.length
  · have hd : decide ((4096 : Int) < (ps.length : Int)) = true := decide_eq_true (by omega)
    have HF := Lib.hid (show fromE (ps.map PgIn.pg) = 20 by unfold fromE; rw [List.length_map, if_pos hbig])
    clear hbig
    go_enter Try.func49, Try.ntmps49
    go_wp2
    go_ret
    exact ⟨by rw [HF.out]; rfl, Below.refl _ _⟩
  have hd : decide ((4096 : Int) < (ps.length : Int)) = false := by simp; omega
  have hE : fromE (ps.map PgIn.pg) = wrongTo (ps.map PgIn.pg) ps.length := by simp only [fromE, List.length_map, if_neg hbig]
  have HE := Lib.hid hE
  clear hE
  go_enter Try.func49, Try.ntmps49
  go_wp2_with fail
  go_loopw [3] (fun i wr => ∃ (k : Nat), k ≤ ps.length ∧ i = .int .i64 k ∧ wrongTo (ps.map PgIn.pg) k = 0 ∧ Below w.heap.size w wr) (fun i _ => ps.length - (intOf i).toNat)
  case atStart => exact ⟨0, by omega, rfl, rfl, Below.refl _ _⟩
  case round =>
    obtain ⟨k, hk, rfl, hw0, hB⟩ := hrel
    have HW := Lib.hid hw0
    clear hw0
    have hPr := hP.below hB
    by_cases hlt : k < ps.length
    · have hd3 : decide ((k : Int) < (ps.length : Int)) = true := by simp; omega
      obtain ⟨b, o, rfl, hbl, c1, c2, c3⟩ := hPr.cells k hlt
      have hbz : b < wr.heap.size := Nat.lt_of_lt_of_le hbl hB.size
      have t9 : ((ps[k].base : Int)).tmod 4096 = (ps[k].base : Int) % 4096 := Int.tmod_eq_emod_of_nonneg (by omega)
      by_cases hw : wrongAt (ps.map PgIn.pg) k = 20
      · have hfin : fromE (ps.map PgIn.pg) = 20 := by
          rw [HE.out]
          exact wrongTo_mono (k := k + 1) (by simp only [wrongTo, HW.out, if_true, hw]) (by decide) (by omega)
        have HF := Lib.hid hfin
        clear hfin
        rcases from_tests hlt hw with t1 | ⟨t1, t2⟩ | ⟨t1, t2, t0, t3⟩ | ⟨t1, t2, t0, t4⟩ | ⟨t1, t2, t0, t3, t4⟩
        · clear hw
          go_wp2
          go_quiet (fail)
          go_wp2
          go_ret
          exact ⟨by rw [HF.out]; rfl, bdrewN (hB.alloc hB.size _) _⟩
        · clear hw
          go_wp2
          go_quiet (fail)
          go_wp2
          go_ret
          exact ⟨by rw [HF.out]; rfl, bdrewN (hB.alloc hB.size _) _⟩
        · clear hw
          have t5 : decide (0 < k) = true := by simp; omega
          have t5b : (1 : Int) ≤ (k : Int) := by omega
          have t5c : IntKind.i64.wrap ((k : Int) - 1) = (k : Int) - 1 := by rw [IntKind.wrap_i64]; omega
          have t6 : ((k : Int) - 1).toNat = k - 1 := by omega
          have t7 : (0 : Int) ≤ (k : Int) - 1 := by omega
          have t8 : (k : Int) - 1 < (ps.length : Int) := by omega
          obtain ⟨b2, o2, e2, hbl2, d1, d2, d3⟩ := hPr.cells (k - 1) (by omega)
          simp only [Option.some.injEq, Addr.mk.injEq, and_true] at e2
          obtain ⟨rfl, rfl⟩ := e2
          clear t0
          go_wp2
          go_quiet (fail)
          go_wp2
          go_ret
          exact ⟨by rw [HF.out]; rfl, bdrewN (hB.alloc hB.size _) _⟩
        · clear hw
          have t5 : decide (0 < k) = false := by simp; omega
          clear t0
          go_wp2
          go_quiet (fail)
          go_wp2
          go_ret
          exact ⟨by rw [HF.out]; rfl, bdrewN (hB.alloc hB.size _) _⟩
        · clear hw
          have t5 : decide (0 < k) = true := by simp; omega
          have t5b : (1 : Int) ≤ (k : Int) := by omega
          have t5c : IntKind.i64.wrap ((k : Int) - 1) = (k : Int) - 1 := by rw [IntKind.wrap_i64]; omega
          have t6 : ((k : Int) - 1).toNat = k - 1 := by omega
          have t7 : (0 : Int) ≤ (k : Int) - 1 := by omega
          have t8 : (k : Int) - 1 < (ps.length : Int) := by omega
          obtain ⟨b2, o2, e2, hbl2, d1, d2, d3⟩ := hPr.cells (k - 1) (by omega)
          simp only [Option.some.injEq, Addr.mk.injEq, and_true] at e2
          obtain ⟨rfl, rfl⟩ := e2
          clear t0
          go_wp2
          go_quiet (fail)
          go_wp2
          go_ret
          exact ⟨by rw [HF.out]; rfl, bdrewN (hB.alloc hB.size _) _⟩
      · obtain ⟨t1, t2, t3, t4, t10, t11, t12⟩ := from_right hlt hw
        clear hw
        rcases (show (decide (0 < k) = false) ∨ (decide (0 < k) = true ∧ (1 : Int) ≤ (k : Int) ∧ IntKind.i64.wrap ((k : Int) - 1) = (k : Int) - 1 ∧ ((k : Int) - 1).toNat = k - 1 ∧ (0 : Int) ≤ (k : Int) - 1 ∧ (k : Int) - 1 < (ps.length : Int) ∧
            decide (ps[k].base ≤ (ps[k - 1]'(by omega)).base) = false ∧ wr.cell? ⟨b, o + (k - 1) * 3, none⟩ = some (.int .u64 ((ps[k - 1]'(by omega)).base : Int))) by
          by_cases h0 : k = 0
          · exact .inl (by simp [h0])
          · obtain ⟨b2, o2, e2, hbl2, d1, d2, d3⟩ := hPr.cells (k - 1) (by omega)
            simp only [Option.some.injEq, Addr.mk.injEq, and_true] at e2
            obtain ⟨rfl, rfl⟩ := e2
            exact .inr ⟨by simp; omega, by omega, by rw [IntKind.wrap_i64]; omega, by omega, by omega, by omega, t3 h0, d1⟩) with t5 | ⟨t5, t5b, t5c, t6, t7, t8, t3, d1⟩
        all_goals
          cases ha : allowedB ps[k].perm with
          | false =>
            have hfin : fromE (ps.map PgIn.pg) = 21 := by
              rw [HE.out]
              refine wrongTo_mono (k := k + 1) ?_ (by decide) (by omega)
              simp only [wrongTo, HW.out, if_true]
              rw [t12, ha]
              rfl
            have HF := Lib.hid hfin
            clear hfin t12
            go_wp2
            go_quiet (fail)
            go_wp2_with (go_at_call 78; refine (rPerm2_all _ _).mono ?_; rw [ha]; rintro e w' ⟨rfl, rfl⟩)
            go_ret
            exact ⟨by rw [HF.out]; rfl, bdrewN (hB.alloc hB.size _) _⟩
          | true =>
            have hnx : wrongTo (ps.map PgIn.pg) (k + 1) = 0 := by
              simp only [wrongTo, HW.out, if_true]
              rw [t12, ha]
              rfl
            have HN := Lib.hid hnx
            clear hnx t12
            go_wp2
            go_quiet (fail)
            go_wp2_with (go_at_call 78; refine (rPerm2_all _ _).mono ?_; rw [ha]; rintro e w' ⟨rfl, rfl⟩)
            go_roundw
            case rel => exact ⟨k + 1, by omega, by go_num, HN.out, bdrewN (hB.alloc hB.size _) _⟩
            case measure => simp [intOf]; omega
    · have hd3 : decide ((k : Int) < (ps.length : Int)) = false := by simp; omega
      obtain rfl : k = ps.length := by omega
      have HF := Lib.hid (HE.out.trans HW.out)
      go_wp2
      go_ret
      exact ⟨by rw [HF.out]; rfl, hB⟩
end Go.Proofs
