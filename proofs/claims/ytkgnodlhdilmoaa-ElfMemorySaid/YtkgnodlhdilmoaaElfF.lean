/- patinaref04.Check answers as elf.Check does. -/
import Derived.Test.YtkgnodlhdilmoaaElfE
namespace Go.Proofs
open Go Go.RowKit Go.Pat

set_option maxHeartbeats 4000000 in
theorem rentry4_any (w : World) (A : Option Addr) (cap en : Nat) (ss : List Sg) (hP : SgsAt w.heap.size w A ss) (hen : en < 18446744073709551616) :
    Calls Try.prog 75 #[.agg #[.int .u64 en, .slice A ss.length cap]] w fun e w' => e = .returned (.bool (entT en (ss.map Sg.d) ss.length && decide (en % 4 = 0))) ∧ Below w.heap.size w w' := by
  have hb0 : Below w.heap.size w (w.alloc (.cells #[.int .u64 en, .slice A ss.length cap] 38)) := (Below.refl _ _).alloc (Nat.le_refl _) _
  go_enter Try.func75, Try.ntmps75
  go_wp2
  go_loopw [3] (fun i wr => ∃ j : Nat, j ≤ ss.length ∧ i = .int .i64 j ∧ entT en (ss.map Sg.d) j = false ∧
    Below (w.alloc (.cells #[.int .u64 en, .slice A ss.length cap] 38)).heap.size (w.alloc (.cells #[.int .u64 en, .slice A ss.length cap] 38)) wr) (fun i _ => ss.length - (intOf i).toNat)
  case atStart => exact ⟨0, by omega, rfl, rfl, Below.refl _ _⟩
  case round =>
    obtain ⟨j, hj, rfl, hent, hB⟩ := hrel
    obtain ⟨c0, c1⟩ := two_cells _ _ _ _ hB
    have hPj := hP.below (hb0.trans (hB.mono hb0.size))
    have hfew := hP.few
    by_cases hlt : j < ss.length
    · have hd3 : decide ((j : Int) < (ss.length : Int)) = true := by simp; omega
      obtain ⟨b, o, rfl, hbw, q0, q1, q2, q3⟩ := hPj.cells j hlt
      have hsm := hPj.small ss[j] (List.getElem_mem hlt)
      have hget : (ss.map Sg.d)[j]? = some (ss[j].d) := by simp [hlt]
      have hB2 : Below (wr.alloc (.cells #[.int .u64 ss[j].addr, .int .i64 ss[j].perm, .slice ss[j].A ss[j].data.length ss[j].cap, .int .u64 ss[j].size] 73)).heap.size (wr.alloc (.cells #[.int .u64 ss[j].addr, .int .i64 ss[j].perm, .slice ss[j].A ss[j].data.length ss[j].cap, .int .u64 ss[j].size] 73)) (wr.alloc (.cells #[.int .u64 ss[j].addr, .int .i64 ss[j].perm, .slice ss[j].A ss[j].data.length ss[j].cap, .int .u64 ss[j].size] 73)) := Below.refl _ _
      obtain ⟨d0, d1, d2, d3⟩ := four_cells _ _ _ _ _ _ hB2
      have hBw := hB.trans ((Below.refl _ _).alloc hB.size (.cells #[.int .u64 ss[j].addr, .int .i64 ss[j].perm, .slice ss[j].A ss[j].data.length ss[j].cap, .int .u64 ss[j].size] 73))
      obtain ⟨c0', c1'⟩ := two_cells _ _ _ _ hBw
      clear hB2
      have he : entT en (ss.map Sg.d) (j + 1) = (entT en (ss.map Sg.d) j || entB en ss[j].addr ss[j].perm ss[j].data.length) := by rw [entT, hget]; rfl
      have hB4 : entB en ss[j].addr ss[j].perm ss[j].data.length = entB en ss[j].addr ss[j].perm ss[j].data.length := rfl
      conv at hB4 => rhs; unfold entB
      have t3 : decide (4 ≤ ss[j].data.length) = decide ((4 : Int) ≤ (ss[j].data.length : Int)) := by rw [Bool.eq_iff_iff]; simp; omega
      rw [t3] at hB4
      rw [hent, Bool.false_or] at he
      clear t3
      rcases chain4 (bits BinOp.and .i64 ss[j].perm 1 != 0) (decide ((4 : Int) ≤ (ss[j].data.length : Int))) (decide (ss[j].addr ≤ en)) (decide (en - ss[j].addr ≤ ss[j].data.length - 4)) with x1 | ⟨x1, x3⟩ | ⟨x1, x3, x2⟩ | ⟨x1, x3, x2, x4⟩ | ⟨x1, x3, x2, x4⟩
      · have HE := Lib.hid (show entT en (ss.map Sg.d) (j + 1) = false by rw [he, hB4]; simp only [x1, Bool.and_self, Bool.and_false, Bool.false_and])
        clear hB4 he
        go_wp2
        go_roundw
        case rel => exact ⟨j + 1, by omega, by go_num, HE.out, hBw⟩
        case measure => simp [intOf]; omega
      · have HE := Lib.hid (show entT en (ss.map Sg.d) (j + 1) = false by rw [he, hB4]; simp only [x1, x3, Bool.and_self, Bool.and_false, Bool.false_and])
        clear hB4 he
        go_wp2
        go_roundw
        case rel => exact ⟨j + 1, by omega, by go_num, HE.out, hBw⟩
        case measure => simp [intOf]; omega
      · have HE := Lib.hid (show entT en (ss.map Sg.d) (j + 1) = false by rw [he, hB4]; simp only [x1, x3, x2, Bool.and_self, Bool.and_false, Bool.false_and])
        clear hB4 he
        go_wp2
        go_roundw
        case rel => exact ⟨j + 1, by omega, by go_num, HE.out, hBw⟩
        case measure => simp [intOf]; omega
      · have HE := Lib.hid (show entT en (ss.map Sg.d) (j + 1) = false by rw [he, hB4]; simp only [x1, x3, x2, x4, Bool.and_self, Bool.and_false, Bool.false_and])
        clear hB4 he
        obtain ⟨d, hd⟩ : ∃ d, ss[j].addr + d = en := ⟨en - ss[j].addr, by simp at x2; omega⟩
        obtain ⟨r, hr2⟩ : ∃ r, r + 4 = ss[j].data.length := ⟨ss[j].data.length - 4, by simp at x3; omega⟩
        rw [show en - ss[j].addr = d by omega, show ss[j].data.length - 4 = r by omega] at x4
        have ew1 : IntKind.u64.wrap ((en : Int) - (ss[j].addr : Int)) = (d : Int) := by rw [IntKind.wrap_u64]; omega
        have ew2 : IntKind.u64.wrap ((ss[j].data.length : Int) - 4) = (r : Int) := by rw [IntKind.wrap_u64]; omega
        go_wp2
        go_roundw
        case rel => exact ⟨j + 1, by omega, by go_num, HE.out, hBw⟩
        case measure => simp [intOf]; omega
      · have HE := Lib.hid (show entT en (ss.map Sg.d) (j + 1) = true by rw [he, hB4]; simp only [x1, x3, x2, x4, Bool.and_self, Bool.and_false, Bool.false_and])
        clear hB4 he
        obtain ⟨d, hd⟩ : ∃ d, ss[j].addr + d = en := ⟨en - ss[j].addr, by simp at x2; omega⟩
        obtain ⟨r, hr2⟩ : ∃ r, r + 4 = ss[j].data.length := ⟨ss[j].data.length - 4, by simp at x3; omega⟩
        rw [show en - ss[j].addr = d by omega, show ss[j].data.length - 4 = r by omega] at x4
        have ew1 : IntKind.u64.wrap ((en : Int) - (ss[j].addr : Int)) = (d : Int) := by rw [IntKind.wrap_u64]; omega
        have ew2 : IntKind.u64.wrap ((ss[j].data.length : Int) - 4) = (r : Int) := by rw [IntKind.wrap_u64]; omega
        have hfin : (entT en (ss.map Sg.d) ss.length && decide (en % 4 = 0)) = ((en : Int) % 4 == 0) := by rw [entT_mono HE.out (by omega), Bool.true_and, Bool.eq_iff_iff]; simp; omega
        have HF := Lib.hid hfin
        clear hfin
        go_wp2
        go_ret
        exact ⟨by rw [HF.out]; rfl, hb0.trans (hBw.mono hb0.size)⟩
    · have hd3 : decide ((j : Int) < (ss.length : Int)) = false := by simp; omega
      obtain rfl : j = ss.length := by omega
      have HF := Lib.hid hent
      clear hent
      go_wp2
      go_ret
      exact ⟨by rw [HF.out]; rfl, hb0.trans (hB.mono hb0.size)⟩

set_option maxHeartbeats 4000000 in
theorem rCheck4_few (w : World) (A : Option Addr) (cap en n : Nat) (hn : n < 1 ∨ 8 < n) (hf : n ≤ 140737488351232) :
    Calls Try.prog 31 #[.agg #[.int .u64 en, .slice A n cap]] w fun e w' => e = .returned (.int .i64 40) ∧ Below w.heap.size w w' := by
  rcases hn with h | h
  · have h1 : decide ((n : Int) < 1) = true := by simp; omega
    go_enter Try.func31, Try.ntmps31
    go_wp2
    go_ret
    exact ⟨rfl, (Below.refl _ _).alloc (Nat.le_refl _) _⟩
  · have h1 : decide ((n : Int) < 1) = false := by simp; omega
    have h2 : decide ((8 : Int) < (n : Int)) = true := by simp; omega
    go_enter Try.func31, Try.ntmps31
    go_wp2
    go_ret
    exact ⟨rfl, (Below.refl _ _).alloc (Nat.le_refl _) _⟩

set_option maxHeartbeats 4000000 in
theorem rCheck4_any (w : World) (A : Option Addr) (cap en : Nat) (ss : List Sg) (hP : SgsAt w.heap.size w A ss) (hen : en < 18446744073709551616) :
    Calls Try.prog 31 #[.agg #[.int .u64 en, .slice A ss.length cap]] w fun e w' => e = .returned (.int .i64 (checkE en (ss.map Sg.d))) ∧ Below w.heap.size w w' := by
  by_cases hn : ss.length < 1 ∨ 8 < ss.length
  · refine (rCheck4_few w A cap en _ hn hP.few).mono ?_
    rintro e w' ⟨rfl, hb⟩
    refine ⟨?_, hb⟩
    unfold checkE
    rw [if_pos (by simp only [List.length_map]; rcases hn with h | h; exact .inl h; exact .inr (.inl h))]
  have hn1 : 1 ≤ ss.length := by omega
  have hn8 : ss.length ≤ 8 := by omega
  have h1 : decide ((ss.length : Int) < 1) = false := by simp; omega
  have h2 : decide ((8 : Int) < (ss.length : Int)) = false := by simp; omega
  have hb0 : Below w.heap.size w (w.alloc (.cells #[.int .u64 en, .slice A ss.length cap] 38)) := (Below.refl _ _).alloc (Nat.le_refl _) _
  have hl : (ss.map Sg.d).length = ss.length := List.length_map ..
  go_enter Try.func31, Try.ntmps31
  go_wp2
  go_loopw [3, 4, 5] (fun af pg i wr => ∃ j : Nat, j ≤ ss.length ∧ i = .int .i64 j ∧ af = .int .u64 (aftT (ss.map Sg.d) j : Nat) ∧ pg = .int .u64 (pagT (ss.map Sg.d) j : Nat) ∧
    okT (ss.map Sg.d) j = true ∧ pagT (ss.map Sg.d) j ≤ 4096 ∧ Below (w.alloc (.cells #[.int .u64 en, .slice A ss.length cap] 38)).heap.size (w.alloc (.cells #[.int .u64 en, .slice A ss.length cap] 38)) wr) (fun _ _ i _ => ss.length - (intOf i).toNat)
  case atStart => exact ⟨0, by omega, rfl, rfl, rfl, rfl, by simp [pagT], Below.refl _ _⟩
  case round =>
    obtain ⟨j, hj, rfl, rfl, rfl, hok, hpl, hB⟩ := hrel
    obtain ⟨c0, c1⟩ := two_cells _ _ _ _ hB
    have hPj := hP.below (hb0.trans (hB.mono hb0.size))
    by_cases hlt : j < ss.length
    · have hd3 : decide ((j : Int) < (ss.length : Int)) = true := by simp; omega
      obtain ⟨b, o, rfl, hbw, q0, q1, q2, q3⟩ := hPj.cells j hlt
      have hsm := hPj.small ss[j] (List.getElem_mem hlt)
      have hget : (ss.map Sg.d)[j]? = some (ss[j].d) := by simp [hlt]
      have hp : pagT (ss.map Sg.d) (j + 1) = pagT (ss.map Sg.d) j + roundN ss[j].size / 4096 := by rw [pagT, hget]; rfl
      go_wp2_with fail
      refine (rseg4_any _ ss[j].addr ss[j].size (aftT (ss.map Sg.d) j) (pagT (ss.map Sg.d) j) ss[j].data.length ss[j].cap ss[j].perm ss[j].A hsm.1 hsm.2.1 hsm.2.2 (by omega)).mono ?_
      rintro e w2 ⟨rfl, hB2⟩
      obtain ⟨d0, d1, d2, d3⟩ := four_cells _ _ _ _ _ _ hB2
      have hBw := hB.trans (((Below.refl _ _).alloc hB.size (.cells #[.int .u64 ss[j].addr, .int .i64 ss[j].perm, .slice ss[j].A ss[j].data.length ss[j].cap, .int .u64 ss[j].size] 73)).trans (hB2.mono (Nat.le_trans hB.size (by rw [World.size_alloc]; omega))))
      obtain ⟨c0, c1⟩ := two_cells _ _ _ _ hBw
      clear hB2
      cases hs : rsegB ss[j].addr ss[j].perm ss[j].data.length ss[j].size (aftT (ss.map Sg.d) j) (pagT (ss.map Sg.d) j) with
      | false =>
        have hfin : checkE en (ss.map Sg.d) = 40 := by
          rw [rsegB_eq] at hs
          unfold checkE
          rw [if_pos]
          cases hsg : segB ss[j].addr ss[j].perm ss[j].data.length ss[j].size (aftT (ss.map Sg.d) j) with
          | false =>
            refine .inr (.inr (.inl (okT_mono (k := j + 1) ?_ (by omega))))
            rw [okT, hget]
            simp only [Sg.d, hsg, Bool.and_false]
          | true =>
            refine .inr (.inr (.inr (.inl ?_)))
            rw [hsg] at hs
            have h1 : 4096 < pagT (ss.map Sg.d) (j + 1) := by rw [hp]; simpa using hs
            exact Nat.lt_of_lt_of_le h1 (pagT_mono (by omega))
        have HF := Lib.hid hfin
        clear hfin
        go_wp2
        go_ret
        exact ⟨by rw [HF.out]; rfl, hb0.trans (hBw.mono hb0.size)⟩
      | true =>
        have hs2 := hs
        rw [rsegB_eq, Bool.and_eq_true] at hs2
        have hF := segB_true (s := ss[j].d) hs2.1
        have ha : aftT (ss.map Sg.d) (j + 1) = roundN (ss[j].addr + ss[j].size) := by rw [aftT, hget]; rfl
        have ho : okT (ss.map Sg.d) (j + 1) = true := by rw [okT, hget, hok]; simpa [Sg.d] using hs2.1
        have hpn : pagT (ss.map Sg.d) (j + 1) ≤ 4096 := by rw [hp]; simpa using hs2.2
        have hT : ss[j].addr + ss[j].size ≤ 281474976710656 := hF.top
        have hM : ss[j].size ≤ 16777216 := hF.most
        have hT2 : ss[j].addr + ss[j].size ≤ 4611686018427387904 := Nat.le_trans hT (by decide)
        have hM2 : ss[j].size ≤ 4611686018427387904 := Nat.le_trans hM (by decide)
        have hr : roundN ss[j].size ≤ 16777216 + 4095 := by unfold roundN; omega
        clear hF hs2
        have HJ := Lib.hid (And.intro ha (And.intro hp (And.intro ho hpn)))
        clear ha hp ho hpn
        go_wp2_with fail
        refine (rround4_int _ (ss[j].addr + ss[j].size) (Int.natCast_add _ _).symm hT2 _).mono ?_
        rintro e w' ⟨rfl, rfl⟩
        go_wp2_with fail
        refine (rround4_int _ ss[j].size rfl hM2 _).mono ?_
        rintro e w' ⟨rfl, rfl⟩
        go_wp2
        go_roundw
        case rel =>
          refine ⟨j + 1, by omega, by go_num, by rw [HJ.out.1], ?_, HJ.out.2.2.1, HJ.out.2.2.2, hBw⟩
          rw [HJ.out.2.1]
          exact congrArg (Value.int .u64) (by omega)
        case measure => simp [intOf]; omega
    · have hd3 : decide ((j : Int) < (ss.length : Int)) = false := by simp; omega
      obtain rfl : j = ss.length := by omega
      have hfin : checkE en (ss.map Sg.d) = if (entT en (ss.map Sg.d) ss.length && decide (en % 4 = 0)) = true then 0 else 40 := by
        unfold checkE
        rw [hl]
        by_cases p2 : entT en (ss.map Sg.d) ss.length = true
        · by_cases p3 : en % 4 = 0
          · rw [if_neg, if_pos (by simp [p2, p3])]
            rintro (h | h | h | h | h | h)
            · omega
            · omega
            · rw [hok] at h; cases h
            · omega
            · rw [p2] at h; cases h
            · exact h p3
          · rw [if_pos (.inr (.inr (.inr (.inr (.inr p3))))), if_neg (by simp [p3])]
        · rw [if_pos (.inr (.inr (.inr (.inr (.inl (by simpa using p2)))))), if_neg (by simp [p2])]
      go_wp2_with fail
      refine (rentry4_any _ A cap en ss (hPj.mono (Nat.le_trans hb0.size hB.size)) hen).mono ?_
      rintro e w2 ⟨rfl, hB2⟩
      have hBw := hB.trans (hB2.mono hB.size)
      cases hx : (entT en (ss.map Sg.d) ss.length && decide (en % 4 = 0)) with
      | true =>
        rw [hx, if_pos rfl] at hfin
        have HF := Lib.hid hfin
        clear hfin
        go_wp2
        go_ret
        exact ⟨by rw [HF.out]; rfl, hb0.trans (hBw.mono hb0.size)⟩
      | false =>
        rw [hx, if_neg (by decide)] at hfin
        have HF := Lib.hid hfin
        clear hfin
        go_wp2
        go_ret
        exact ⟨by rw [HF.out]; rfl, hb0.trans (hBw.mono hb0.size)⟩
end Go.Proofs
