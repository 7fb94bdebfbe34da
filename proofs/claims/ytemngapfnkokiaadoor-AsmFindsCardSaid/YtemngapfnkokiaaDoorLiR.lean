/- patinaref05.Load, Li; patina/asm.Li: the same instructions. -/
import Derived.Test.YtemngapfnkokiaaDoorLi
import Derived.Laws.BitsLemmas
namespace Go.Pat
open Go Go.RowKit
theorem i64_and1 (n : Int) : bits .and .i64 n 1 = n % 2 := by
  have h1 : (BitVec.ofInt 64 1).toNat = 2 ^ 1 - 1 := by decide
  have key : (BitVec.ofInt 64 n &&& BitVec.ofInt 64 1).toNat = (n % ((2 ^ 64 : Nat) : Int)).toNat % 2 ^ 1 := by
    rw [BitVec.toNat_and, BitVec.toNat_ofInt, h1, Nat.and_two_pow_sub_one_eq_mod]
  show IntKind.i64.wrap ((BitVec.ofInt 64 n &&& BitVec.ofInt 64 1).toNat : Nat) = n % 2
  rw [key, IntKind.wrap_i64]
  omega
theorem par_eq {h : Int} {x j : Nat} (hx : h % 18446744073709551616 = (x : Int)) (hj : j < 64) : h / 2 ^ j % 2 = ((x / 2 ^ j % 2 : Nat) : Int) := by
  have e : (18446744073709551616 : Int) = 2 ^ j * (2 * 2 ^ (63 - j)) := by rw [← Int.pow_succ', ← Int.pow_add, show j + (63 - j + 1) = 64 by omega]; rfl
  have hc := Int.emod_add_mul_ediv h 18446744073709551616
  rw [hx] at hc
  have h2 : h = (x : Int) + 2 ^ j * (2 * (2 ^ (63 - j) * (h / 18446744073709551616))) := by
    rw [← Int.mul_assoc 2, ← Int.mul_assoc (2 ^ j), ← e]; exact hc.symm
  have hne : (2 : Int) ^ j ≠ 0 := by have := Int.pow_pos (n := (2 : Int)) (m := j) (by decide); omega
  rw [h2, Int.add_mul_ediv_left _ _ hne, ediv_pow]
  omega
theorem par_lo {h : Int} {x z j : Nat} (hx : h % 18446744073709551616 = (x : Int)) (hxl : x < 18446744073709551616) (hx0 : x ≠ 0) (hz : Lib.ctz 64 x = z) (hj : j < z) : h / 2 ^ j % 2 = 0 := by
  have hz64 : z < 64 := by rw [← hz]; exact ctz_lt x hxl hx0
  obtain ⟨m, hm, _⟩ := Lib.ctzFrom_spec 64 x (by omega) hxl
  have e : Lib.ctzFrom 64 x = z := by rw [← hz]; unfold Lib.ctz; rw [if_neg hx0]
  rw [e] at hm
  rw [par_eq hx (by omega), hm, show z = j + ((z - j - 1) + 1) by omega, Nat.pow_add, Nat.mul_assoc, Nat.mul_div_cancel_left _ (Nat.pow_pos (by decide)), Nat.pow_succ, Nat.mul_comm _ 2, Nat.mul_assoc]
  omega
theorem par_at {h : Int} {x z : Nat} (hx : h % 18446744073709551616 = (x : Int)) (hxl : x < 18446744073709551616) (hx0 : x ≠ 0) (hz : Lib.ctz 64 x = z) : h / 2 ^ z % 2 ≠ 0 := by
  have hz64 : z < 64 := by rw [← hz]; exact ctz_lt x hxl hx0
  obtain ⟨m, hm, _⟩ := Lib.ctzFrom_spec 64 x (by omega) hxl
  have e : Lib.ctzFrom 64 x = z := by rw [← hz]; unfold Lib.ctz; rw [if_neg hx0]
  rw [e] at hm
  rw [par_eq hx hz64, hm, Nat.mul_div_cancel_left _ (Nat.pow_pos (by decide))]
  omega
end Go.Pat
namespace Go.Proofs
open Go Go.RowKit Go.Pat
theorem rli_A (k : Nat) (rd n : Int) (w : World) (h1 : -2048 ≤ n) (h2 : n ≤ 2047) : Calls Tryd.prog 37 #[.int .i64 rd, .int .i64 n] w (LiTo (liM (k + 1) rd n) w) := by
  have HV := Lib.hid (show liM (k + 1) rd n = [⟨22, rd, 0, 0, n⟩] by rw [liM, if_pos ⟨h1, h2⟩])
  have d1 : decide (-2048 ≤ n) = true := decide_eq_true h1
  have d2 : decide (n ≤ 2047) = true := decide_eq_true h2
  go_enter Tryd.func37, Tryd.ntmps37
  go_wp2
  go_ret
  exact ⟨_, rfl, by rw [HV.out]; exact OwnI.lit w _ (Nat.le_refl _) ⟨22, rd, 0, 0, n⟩, form1 w _⟩
set_option maxHeartbeats 1000000 in
theorem rli_B (k : Nat) (rd n : Int) (w : World) (h0 : ¬ (-2048 ≤ n ∧ n ≤ 2047)) (h1 : -2147483648 ≤ n) (h2 : n < 2147483648) : Calls Tryd.prog 37 #[.int .i64 rd, .int .i64 n] w (LiTo (liM (k + 1) rd n) w) := by
  have e1 : wrap32 n = n := by unfold wrap32; omega
  obtain ⟨h, hh⟩ : ∃ h, (n + 2048) / 4096 = h := ⟨_, rfl⟩
  obtain ⟨l, hl⟩ : ∃ l, n - h * 4096 = l := ⟨_, rfl⟩
  have hll : lowI n = l := by unfold lowI; omega
  have HV := Lib.hid (show liM (k + 1) rd n = ⟨1, rd, 0, 0, if h = 524288 then -524288 else h⟩ :: (if l ≠ 0 then [⟨31, rd, rd, 0, l⟩] else []) by rw [liM, if_neg h0, if_pos ⟨h1, h2⟩, hh, hll])
  have b1 : -524288 ≤ h := by omega
  have b2 : h ≤ 524288 := by omega
  have b3 : -2048 ≤ l := by omega
  have b4 : l ≤ 2047 := by omega
  have e2 : wrap32 l = l := by unfold wrap32; omega
  have H5 := Lib.hid (show h = 524288 → h - 1048576 = -524288 by omega)
  clear hll
  rcases (show (decide (-2048 ≤ n) = false) ∨ (decide (-2048 ≤ n) = true ∧ decide (n ≤ 2047) = false) by
    by_cases h : -2048 ≤ n
    · exact .inr ⟨decide_eq_true h, decide_eq_false (by omega)⟩
    · exact .inl (decide_eq_false h)) with d1 | ⟨d1, d2⟩
  all_goals
    clear h0
    cases t1 : (h == 524288)
    · have HW := Lib.hid (show (if h = 524288 then -524288 else h) = h by rw [if_neg (by simpa using t1)])
      cases t2 : (l != 0)
      · have HW2 := Lib.hid (show (if l ≠ 0 then [(⟨31, rd, rd, 0, l⟩ : In)] else []) = [] by rw [if_neg (by simpa using t2)])
        go_enter Tryd.func37, Tryd.ntmps37
        go_wp2_with fail
        go_ret
        exact ⟨_, rfl, by rw [HV.out, HW.out, HW2.out]; exact OwnI.lit w _ (Nat.le_refl _) ⟨1, rd, 0, 0, h⟩, form1 w _⟩
      · have HW2 := Lib.hid (show (if l ≠ 0 then [(⟨31, rd, rd, 0, l⟩ : In)] else []) = [⟨31, rd, rd, 0, l⟩] by rw [if_pos (by simpa using t2)])
        go_enter Tryd.func37, Tryd.ntmps37
        go_wp2_with (at_builtin; refine wpList_appI _ rfl _ _ rfl w.heap.size _ [⟨1, rd, 0, 0, h⟩] rfl ((OwnI.lit w _ (Nat.le_refl _) ⟨1, rd, 0, 0, h⟩).below (form1 _ _)) _ _ 1 1 [⟨31, rd, rd, 0, l⟩] rfl rfl (lit_at _ _ ⟨31, rd, rd, 0, l⟩ (heap_new2 w _ _)) (by simp) (two_le _ _ _) ?_; intro v' w1 hown hbw _)
        go_ret
        exact ⟨_, rfl, by rw [HV.out, HW.out, HW2.out]; exact hown, hbw w (form2 w _ _)⟩
    · have t9 : h = 524288 := by simpa using t1
      have HW := Lib.hid (show (if h = 524288 then -524288 else h) = -524288 by rw [if_pos t9])
      have hx := H5.out t9
      clear t9
      cases t2 : (l != 0)
      · have HW2 := Lib.hid (show (if l ≠ 0 then [(⟨31, rd, rd, 0, l⟩ : In)] else []) = [] by rw [if_neg (by simpa using t2)])
        go_enter Tryd.func37, Tryd.ntmps37
        go_wp2_with fail
        go_ret
        exact ⟨_, rfl, by rw [HV.out, HW.out, HW2.out]; exact OwnI.lit w _ (Nat.le_refl _) ⟨1, rd, 0, 0, -524288⟩, form1 w _⟩
      · have HW2 := Lib.hid (show (if l ≠ 0 then [(⟨31, rd, rd, 0, l⟩ : In)] else []) = [⟨31, rd, rd, 0, l⟩] by rw [if_pos (by simpa using t2)])
        go_enter Tryd.func37, Tryd.ntmps37
        go_wp2_with (at_builtin; refine wpList_appI _ rfl _ _ rfl w.heap.size _ [⟨1, rd, 0, 0, -524288⟩] rfl ((OwnI.lit w _ (Nat.le_refl _) ⟨1, rd, 0, 0, -524288⟩).below (form1 _ _)) _ _ 1 1 [⟨31, rd, rd, 0, l⟩] rfl rfl (lit_at _ _ ⟨31, rd, rd, 0, l⟩ (heap_new2 w _ _)) (by simp) (two_le _ _ _) ?_; intro v' w1 hown hbw _)
        go_ret
        exact ⟨_, rfl, by rw [HV.out, HW.out, HW2.out]; exact hown, hbw w (form2 w _ _)⟩
set_option maxRecDepth 20000 in
set_option maxHeartbeats 4000000 in
theorem rli_C (k : Nat) (rd n : Int) (w : World) (h1 : ¬ (-2147483648 ≤ n ∧ n < 2147483648)) (hr : -9223372036854775808 ≤ n ∧ n < 9223372036854775808)
    (ih : ∀ (m : Int) (W : World), m = hiI n / 2 ^ tzI (hiI n) → Calls Tryd.prog 37 #[.int .i64 rd, .int .i64 m] W (LiTo (liM k rd m) W)) (hlen : (liM k rd (hiI n / 2 ^ tzI (hiI n))).length ≤ 1000) : Calls Tryd.prog 37 #[.int .i64 rd, .int .i64 n] w (LiTo (liM (k + 1) rd n) w) := by
  obtain ⟨r1, r2, r3⟩ := hi_rng hr h1
  have e1 : (n == wrap64 (wrap32 n)) = false := by rw [beq_eq_false_iff_ne]; unfold wrap32 wrap64; omega
  obtain ⟨l, hl⟩ : ∃ l, lowI n = l := ⟨_, rfl⟩
  obtain ⟨h, hh⟩ : ∃ h, hiI n = h := ⟨_, rfl⟩
  have hh2 : wrap64 (n - l) / 4096 = h := by rw [← hl, ← hh]; rfl
  have b3 : -2048 ≤ l := by unfold lowI at hl; omega
  have b4 : l ≤ 2047 := by unfold lowI at hl; omega
  rw [hh] at r1 r2 r3 ih hlen
  obtain ⟨x, hx⟩ : ∃ x : Nat, h % 18446744073709551616 = (x : Int) := ⟨(h % 18446744073709551616).toNat, by omega⟩
  have hxl : x < 18446744073709551616 := by omega
  have hx0 : x ≠ 0 := by omega
  have hz : tzI h = Lib.ctz 64 x := by unfold tzI; rw [hx]; rfl
  obtain ⟨z, hzz⟩ : ∃ z, Lib.ctz 64 x = z := ⟨_, rfl⟩
  have hz64 : z < 64 := by rw [← hzz]; exact ctz_lt x hxl hx0
  rw [hz, hzz] at ih hlen
  have HV := Lib.hid (show liM (k + 1) rd n = liM k rd (h / 2 ^ z) ++ (⟨28, rd, rd, 0, 12 + (z : Int)⟩ :: (if l ≠ 0 then [⟨22, rd, rd, 0, l⟩] else [])) by
    rw [liM, if_neg (by omega), if_neg h1, hh, hl, hz, hzz])
  have HP : ∀ j : Nat, j < z → (bits .and .i64 (h / 2 ^ j) 1 == 0) = true := fun j hj => by rw [i64_and1, beq_iff_eq]; exact par_lo hx hxl hx0 hzz hj
  have HQ : (bits .and .i64 (h / 2 ^ z) 1 == 0) = false := by rw [i64_and1, beq_eq_false_iff_ne]; exact par_at hx hxl hx0 hzz
  have HPh := Lib.hid HP
  have HQh := Lib.hid HQ
  obtain ⟨m, hm⟩ : ∃ m, h / 2 ^ z = m := ⟨_, rfl⟩
  rw [hm] at HV hlen
  have HM := Lib.hid hm
  have IH := Lib.hid (fun (W : World) => ih m W hm.symm)
  obtain ⟨L, hL⟩ : ∃ L, liM k rd m = L := ⟨_, rfl⟩
  rw [hL] at HV hlen IH
  clear ih hz hzz hm hh hL hx0 hr HP HQ
  have hlo : wrap64 (n * 4503599627370496) / 4503599627370496 = l := by rw [← hl]; unfold wrap64 lowI; omega
  rcases (show (decide (-2048 ≤ n) = false) ∨ (decide (-2048 ≤ n) = true ∧ decide (n ≤ 2047) = false) by
    by_cases h : -2048 ≤ n
    · exact .inr ⟨decide_eq_true h, decide_eq_false (by omega)⟩
    · exact .inl (decide_eq_false h)) with d1 | ⟨d1, d2⟩
  all_goals
    clear h1
    go_enter Tryd.func37, Tryd.ntmps37
    go_wp2_with fail
    clear e1 hh2 hx hl r1 r2 r3 hxl hlo
    go_loop [10] (fun t => ∃ j : Nat, j ≤ z ∧ t = .int .i64 j) (fun t => z - (intOf t).toNat)
    case atStart => exact ⟨0, Nat.zero_le _, rfl⟩
    obtain ⟨j, hj, rfl⟩ := hrel
    by_cases hjz : j < z
    · have tj := HPh.out j hjz
      go_wp2_with fail
      go_round
      case rel => exact ⟨j + 1, by omega, by go_num⟩
      case measure => simp [intOf]; omega
    obtain rfl : z = j := by omega
    have tj := HQh.out
    clear hjz hj
    go_wp2_with fail
    rw [HM.out]
    refine Calls.mono (IH.out _) ?_
    rintro e w2 ⟨v, rfl, hown, hB2⟩
    have hlL : L.length ≤ 1000 := hlen
    have hs2 := hB2.size
    cases t2 : (l != 0)
    · have HW2 := Lib.hid (show (if l ≠ 0 then [(⟨22, rd, rd, 0, l⟩ : In)] else []) = [] by rw [if_neg (by simpa using t2)])
      go_wp2_with (at_builtin; refine wpList_appI _ rfl _ _ rfl w.heap.size _ L rfl (hown.below (form1 _ _)) _ _ 1 1 [⟨28, rd, rd, 0, 12 + (z : Int)⟩] rfl rfl (lit_at _ _ ⟨28, rd, rd, 0, 12 + (z : Int)⟩ (heap_alloc_new _ _)) (by omega) (Nat.le_trans hs2 (form1 _ _).size) ?_; intro v3 w3 hown3 hbw3 _)
      go_ret
      exact ⟨_, rfl, by rw [HV.out, HW2.out]; exact hown3, hbw3 _ (hB2.alloc hs2 _)⟩
    · have HW2 := Lib.hid (show (if l ≠ 0 then [(⟨22, rd, rd, 0, l⟩ : In)] else []) = [⟨22, rd, rd, 0, l⟩] by rw [if_pos (by simpa using t2)])
      go_wp2_with (first
        | (at_builtin; refine wpList_appI _ rfl (.tmp 73) _ rfl w.heap.size _ L rfl (hown.below (form1 _ _)) _ _ 1 1 [⟨28, rd, rd, 0, 12 + (z : Int)⟩] rfl rfl (lit_at _ _ ⟨28, rd, rd, 0, 12 + (z : Int)⟩ (heap_alloc_new _ _)) (by omega) (Nat.le_trans hs2 (form1 _ _).size) ?_; intro v3 w3 hown3 hbw3 _; have hB3 := hbw3 _ (hB2.alloc hs2 _); have hs3 := hB3.size)
        | (at_builtin; refine wpList_appI _ rfl (.tmp 83) _ rfl w.heap.size _ (L ++ [⟨28, rd, rd, 0, 12 + (z : Int)⟩]) rfl (hown3.below (form1 _ _)) _ _ 1 1 [⟨22, rd, rd, 0, l⟩] rfl rfl (lit_at _ _ ⟨22, rd, rd, 0, l⟩ (heap_alloc_new _ _)) (by simp; omega) (Nat.le_trans hs3 (form1 _ _).size) ?_; intro v4 w4 hown4 hbw4 _))
      go_ret
      exact ⟨_, rfl, by rw [HV.out, HW2.out]; simpa using hown4, hbw4 _ (hB3.alloc hs3 _)⟩
theorem rli_any (k : Nat) (hk : k ≤ 100) : ∀ (rd n : Int) (w : World), inB k n → -9223372036854775808 ≤ n ∧ n < 9223372036854775808 → Calls Tryd.prog 37 #[.int .i64 rd, .int .i64 n] w (LiTo (liM (k + 1) rd n) w) := by
  induction k with
  | zero =>
    intro rd n w hb hr
    have h : -2147483648 ≤ n ∧ n < 2147483648 := by simpa [inB] using hb
    by_cases h0 : -2048 ≤ n ∧ n ≤ 2047
    · exact rli_A 0 rd n w h0.1 h0.2
    · exact rli_B 0 rd n w h0 h.1 h.2
  | succ k ih =>
    intro rd n w hb hr
    by_cases h0 : -2048 ≤ n ∧ n ≤ 2047
    · exact rli_A (k + 1) rd n w h0.1 h0.2
    · by_cases h : -2147483648 ≤ n ∧ n < 2147483648
      · exact rli_B (k + 1) rd n w h0 h.1 h.2
      · have hD : (1 : Int) ≤ 2 ^ tzI (hiI n) := by have := Int.pow_pos (n := (2 : Int)) (m := tzI (hiI n)) (by decide); omega
        obtain ⟨r1, r2, _⟩ := hi_rng hr h
        have hd := div_in (lo := -2251799813685248) (hi := 2251799813685248) (2 ^ tzI (hiI n)) hD (by decide) (by decide) r1 r2
        refine rli_C (k + 1) rd n w h hr ?_ (Nat.le_trans (liM_len _ _ _) (by omega))
        rintro m W rfl
        exact ih (by omega) rd _ W (hi_in hr hb h _ hD) ⟨by omega, by omega⟩
theorem rli_all (rd n : Int) (w : World) (hr : -9223372036854775808 ≤ n ∧ n < 9223372036854775808) : Calls Tryd.prog 37 #[.int .i64 rd, .int .i64 n] w (LiTo (liL rd n) w) :=
  rli_any 5 (by decide) rd n w ⟨by have : (256 : Int) ^ 5 = 1099511627776 := by decide
                                   omega, by have : (256 : Int) ^ 5 = 1099511627776 := by decide
                                             omega⟩ hr
def rdOK (rd : Int) : Bool := decide (0 ≤ rd) && decide (rd ≤ 31)
/-- what Li tells. -/
def LiRes (rd n : Int) (w : World) (e : Ending) (w' : World) : Prop :=
  ∃ v, e = .returned (.tuple #[v, .int .i64 (if rdOK rd then 0 else 1)]) ∧ OwnI w' w.heap.size v (if rdOK rd then liL rd n else []) ∧ Below w.heap.size w w'
theorem aLi_any (rd n : Int) (w : World) (hT : TzTab w) (hr : -9223372036854775808 ≤ n ∧ n < 9223372036854775808) : Calls Tryd.prog 10 #[.int .i64 rd, .int .i64 n] w (LiRes rd n w) := by
  by_cases h0 : rd < 0
  · have d1 : decide (rd < 0) = true := decide_eq_true h0
    have HV := Lib.hid (show rdOK rd = false by unfold rdOK; simp; omega)
    go_enter Tryd.func10, Tryd.ntmps10
    go_wp2
    go_ret2
    exact ⟨_, by rw [HV.out]; rfl, by rw [HV.out]; exact OwnI.nil w _, Below.refl _ _⟩
  · have d1 : decide (rd < 0) = false := decide_eq_false h0
    by_cases h1 : 31 < rd
    · have d2 : decide (31 < rd) = true := decide_eq_true h1
      have HV := Lib.hid (show rdOK rd = false by unfold rdOK; simp; omega)
      go_enter Tryd.func10, Tryd.ntmps10
      go_wp2
      go_ret2
      exact ⟨_, by rw [HV.out]; rfl, by rw [HV.out]; exact OwnI.nil w _, Below.refl _ _⟩
    · have d2 : decide (31 < rd) = false := decide_eq_false h1
      have HV := Lib.hid (show rdOK rd = true by unfold rdOK; simp; omega)
      go_enter Tryd.func10, Tryd.ntmps10
      go_wp2_with fail
      refine Calls.mono (li_all rd n _ hT hr) ?_
      rintro e w1 ⟨v, rfl, hown, hB⟩
      go_wp2
      go_ret2
      exact ⟨_, by rw [HV.out]; rfl, by rw [HV.out]; exact hown, hB⟩
theorem r5Li_any (rd n : Int) (w : World) (hr : -9223372036854775808 ≤ n ∧ n < 9223372036854775808) : Calls Tryd.prog 11 #[.int .i64 rd, .int .i64 n] w (LiRes rd n w) := by
  by_cases h0 : rd < 0
  · have d1 : decide (rd < 0) = true := decide_eq_true h0
    have HV := Lib.hid (show rdOK rd = false by unfold rdOK; simp; omega)
    go_enter Tryd.func11, Tryd.ntmps11
    go_wp2
    go_ret2
    exact ⟨_, by rw [HV.out]; rfl, by rw [HV.out]; exact OwnI.nil w _, Below.refl _ _⟩
  · have d1 : decide (rd < 0) = false := decide_eq_false h0
    by_cases h1 : 31 < rd
    · have d2 : decide (31 < rd) = true := decide_eq_true h1
      have HV := Lib.hid (show rdOK rd = false by unfold rdOK; simp; omega)
      go_enter Tryd.func11, Tryd.ntmps11
      go_wp2
      go_ret2
      exact ⟨_, by rw [HV.out]; rfl, by rw [HV.out]; exact OwnI.nil w _, Below.refl _ _⟩
    · have d2 : decide (31 < rd) = false := decide_eq_false h1
      have HV := Lib.hid (show rdOK rd = true by unfold rdOK; simp; omega)
      go_enter Tryd.func11, Tryd.ntmps11
      go_wp2_with fail
      refine Calls.mono (rli_all rd n _ hr) ?_
      rintro e w1 ⟨v, rfl, hown, hB⟩
      go_wp2
      go_ret2
      exact ⟨_, by rw [HV.out]; rfl, by rw [HV.out]; exact hown, hB⟩
end Go.Proofs
