/- patinaref02.Store. -/
import Derived.Test.YtkgnodlhdilmoaaRWrite
namespace Go.Pat
open Go Go.RowKit Go.Proofs
theorem le_getD (v : Nat) : ∀ (n j : Nat), j < n → (le n v).getD j 0 = UInt8.ofNat (v / 256 ^ j) := by
  intro n
  induction n with
  | zero => intro j h; omega
  | succ n ih =>
    intro j h
    rw [le_succ, List.getD_eq_getElem?_getD]
    by_cases e : j < n
    · rw [List.getElem?_append_left (by rw [le_length]; exact e), ← List.getD_eq_getElem?_getD]
      exact ih j e
    · obtain rfl : j = n := by omega
      rw [List.getElem?_append_right (by rw [le_length]; exact Nat.le_refl _), le_length, Nat.sub_self]
      rfl
theorem wrF_le (fs : List Fr) (at_ v n : Nat) : ∀ k, k ≤ n → wrF fs at_ (le n v) k = storeTo fs at_ v k := by
  intro k
  induction k with
  | zero => intro _; rfl
  | succ k ih => intro h; rw [wrF, ih (by omega), le_getD v n k (by omega)]; rfl
end Go.Pat
namespace Go.Proofs
open Go Go.RowKit Go.Pat

set_option maxRecDepth 20000 in
set_option maxHeartbeats 8000000 in
theorem rStore2_any (w : World) (A : Option Addr) (cap n at_ v : Nat) (z : Int) (ps : List PgIn) (fs : List Fr) (hP : PgsAt w.heap.size w A ps) (hn : ps.length = n) (hn9 : n ≤ 90000) (hfs : fs.map Fr.pg = ps.map PgIn.pg) (hok : PsOK (ps.map PgIn.pg)) (hat : at_ < 18446744073709551616) (hv : v < 18446744073709551616) :
    Calls Try.prog 50 #[.slice A n cap, .int .u64 at_, .int .i64 z, .int .u64 v] w fun e w' => ∃ A' c' qs, e = .returned (.tuple #[.slice A' n c', .int .i64 (storeE fs at_ z)]) ∧ PgsAt w'.heap.size w' A' qs ∧ qs.length = n ∧ qs.map PgIn.pg = (storeM fs at_ v z).map Fr.pg ∧ Below w.heap.size w w' := by
  have HN := Lib.hid (And.intro hn (And.intro hfs hok))
  clear hn hfs hok
  cases hw : wide z with
  | false =>
    have hE : storeE fs at_ z = 1 := by simp [storeE, hw]
    have hS : storeM fs at_ v z = fs := by rw [storeM, hE, if_neg (by decide)]
    have HF := Lib.hid (And.intro hE hS)
    have h1 : (z != 1) = true ∧ (z != 2) = true ∧ (z != 4) = true ∧ (z != 8) = true := by
      simp only [wide, Bool.or_eq_false_iff, beq_eq_false_iff_ne] at hw
      simp only [bne_iff_ne]
      exact ⟨hw.1.1.1, hw.1.1.2, hw.1.2, hw.2⟩
    obtain ⟨e1, e2, e4, e8⟩ := h1
    clear hw hE hS
    go_enter Try.func50, Try.ntmps50
    go_wp2
    go_ret2
    exact ⟨A, cap, ps, by rw [HF.out.1]; rfl, hP, HN.out.1, by rw [HF.out.2]; exact HN.out.2.1.symm, Below.refl _ _⟩
  | true =>
    have hz : z = 1 ∨ z = 2 ∨ z = 4 ∨ z = 8 := by simp [wide] at hw; omega
    obtain ⟨m, hm, hm8⟩ : ∃ m : Nat, z = (m : Int) ∧ m ≤ 8 := ⟨z.toNat, by omega, by omega⟩
    have htn : z.toNat = m := by omega
    have hE : storeE fs at_ z = askedM fs at_ m 2 := by simp [storeE, hw, htn]
    by_cases h0 : askedM fs at_ m 2 = 0
    · have hS : storeM fs at_ v z = wrF fs at_ (le m v) m := by rw [storeM, hE, if_pos h0, htn, wrF_le fs at_ v m m (Nat.le_refl _)]
      have HF := Lib.hid (And.intro (hE.trans h0) hS)
      obtain ⟨z1, z2, z3⟩ := asked_zero h0
      have h0' : (askedM fs at_ m 2 != 0) = false := by simp [h0]
      have HM := Lib.hid (And.intro hm (fun i (hi : i < m) => (z3 i hi).imp fun _ h => h.1))
      clear h0 hw htn hm z3 hE hS
      rcases hz with rfl | rfl | rfl | rfl
      all_goals
        go_enter Try.func50, Try.ntmps50
        go_wp2_with fail
        refine Calls.mono (rasked2_int w A cap n at_ m ps fs hP HN.out.1 HN.out.2.1 HN.out.2.2 _ HM.out.1 2 hat (by omega)) ?_
        rintro e w' ⟨rfl, rfl⟩
        go_wp2_with fail
        go_loopw [3, 11, 12] (fun q out i wr => ∃ j : Nat, j ≤ m ∧ i = .int .i64 j ∧ q = .int .u64 ((v / 256 ^ j : Nat) : Int) ∧ OwnB wr w.heap.size out (le j v) ∧ Below w.heap.size w wr) (fun _ _ i _ => m - (intOf i).toNat)
        case atStart => exact ⟨0, by omega, rfl, by simp, .nil _ _, Below.refl _ _⟩
        case round =>
          obtain ⟨j, hj, rfl, rfl, hown, hB⟩ := hrel
          by_cases hlt : j < m
          · have hd3 : decide ((j : Int) < (m : Int)) = true := decide_eq_true (by omega)
            rw [← HM.out.1] at hd3
            obtain ⟨q, hq⟩ : ∃ q, q = v / 256 ^ j := ⟨_, rfl⟩
            have hqv : q < 18446744073709551616 := by rw [hq]; exact Nat.lt_of_le_of_lt (Nat.div_le_self _ _) hv
            rw [← hq]
            have HQ := Lib.hid hq
            clear hq
            go_wp2_with (at_builtin; refine wpList_appB _ rfl _ _ rfl w.heap.size _ (le j v) rfl (hown.alloc _) _ _ 1 1 [UInt8.ofNat q] rfl rfl (lit_bs _ _ _ _ ?hx) (by rw [le_length]; omega) ?hb ?hk)
            case hx => rw [UInt8.toNat_ofNat']; omega
            case hb => simp; have := hB.size; omega
            case hk =>
              intro v' w1 hown' hB' _
              have hB1 := hB' w (hB.alloc hB.size _)
              rw [HQ.out, ← le_succ] at hown'
              clear hB' hown
              go_wp2
              go_roundw
              case rel =>
                refine ⟨j + 1, by omega, by go_num, ?_, hown', hB1⟩
                rw [HQ.out, Nat.pow_succ, ← Nat.div_div_eq_div_mul]
                exact congrArg (Value.int .u64) (by omega)
              case measure => simp [intOf]; omega
          · have hd3 : decide ((j : Int) < (m : Int)) = false := decide_eq_false (by omega)
            rw [← HM.out.1] at hd3
            obtain ⟨Ab, cb, rfl, hBs⟩ := hown.form
            have hj' : j = m := by omega
            have hln : (le j v).length = m := by rw [le_length]; exact hj'
            rw [hln]
            have hbs2 : Bs wr.heap.size wr Ab (le m v) := by rw [← hj']; exact hBs
            have HB := Lib.hid (And.intro hbs2 (le_length m v))
            clear hln hj' hBs hbs2 hown
            go_wp2_with fail
            refine Calls.mono (rwritten2_any wr A n cap ps fs ((hP.below hB).mono hB.size) HN.out.1 hn9 HN.out.2.1 HN.out.2.2 at_ Ab m cb (le m v) HB.out.1 HB.out.2 z1 HM.out.2) ?_
            rintro e w3 ⟨A', c', qs, rfl, hP3, hl3, hq3, hB3⟩
            go_wp2
            go_ret2
            exact ⟨A', c', qs, by first | (rw [HF.out.1]; rfl) | (have := HF.out.1; simp_all), hP3, hl3, by first | (rw [HF.out.2]; exact hq3) | (have := HF.out.2; simp_all), hB.trans (hB3.mono hB.size)⟩
    · have hS : storeM fs at_ v z = fs := by rw [storeM, hE, if_neg h0]
      have HF := Lib.hid (And.intro hE hS)
      have h0' : (askedM fs at_ m 2 != 0) = true := by simp [h0]
      have HM := Lib.hid hm
      clear h0 hw htn hm hE hS
      rcases hz with rfl | rfl | rfl | rfl
      all_goals
        go_enter Try.func50, Try.ntmps50
        go_wp2_with fail
        refine Calls.mono (rasked2_int w A cap n at_ m ps fs hP HN.out.1 HN.out.2.1 HN.out.2.2 _ HM.out 2 hat (by omega)) ?_
        rintro e w' ⟨rfl, rfl⟩
        go_wp2
        go_ret2
        exact ⟨A, cap, ps, by rw [HF.out.1]; rfl, hP, HN.out.1, by rw [HF.out.2]; exact HN.out.2.1.symm, Below.refl _ _⟩
end Go.Proofs
