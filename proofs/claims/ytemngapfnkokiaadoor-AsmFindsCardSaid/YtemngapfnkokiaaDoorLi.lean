/- patina/asm.low, li, Li: the instructions that load a number. -/
import Derived.Test.YtemngapfnkokiaaDoorInsL
import Derived.Test.YtemngapfnkokiaaDoorFormP
namespace Go.Pat
open Go Go.RowKit
def lowI (n : Int) : Int := (n + 2048) % 4096 - 2048
def hiI (n : Int) : Int := wrap64 (n - lowI n) / 4096
def tzI (h : Int) : Nat := Lib.ctz 64 (h % 18446744073709551616).toNat
/-- the instructions that load a number. -/
def liM : Nat → Int → Int → List In
  | 0, _, _ => []
  | k + 1, rd, n =>
    if -2048 ≤ n ∧ n ≤ 2047 then [⟨22, rd, 0, 0, n⟩]
    else if -2147483648 ≤ n ∧ n < 2147483648 then
      ⟨1, rd, 0, 0, if (n + 2048) / 4096 = 524288 then -524288 else (n + 2048) / 4096⟩ :: (if lowI n ≠ 0 then [⟨31, rd, rd, 0, lowI n⟩] else [])
    else liM k rd (hiI n / 2 ^ tzI (hiI n)) ++ (⟨28, rd, rd, 0, 12 + (tzI (hiI n) : Int)⟩ :: (if lowI n ≠ 0 then [⟨22, rd, rd, 0, lowI n⟩] else []))
end Go.Pat
namespace Go.Proofs
open Go Go.RowKit Go.Pat
theorem alow_any (n : Int) (w : World) : Calls Tryd.prog 67 #[.int .i64 n] w fun e w' => e = .returned (.int .i64 (lowI n)) ∧ w' = w := by
  go_enter Tryd.func67, Tryd.ntmps67
  go_wp2
  go_ret
  refine ⟨congrArg (fun z => Ending.returned (Value.int IntKind.i64 z)) ?_, rfl⟩
  unfold wrap64 lowI
  omega
def LiTo (l : List In) (w : World) (e : Ending) (w' : World) : Prop := ∃ v, e = .returned v ∧ OwnI w' w.heap.size v l ∧ Below w.heap.size w w'
theorem li_A (k : Nat) (rd n : Int) (w : World) (h1 : -2048 ≤ n) (h2 : n ≤ 2047) : Calls Tryd.prog 36 #[.int .i64 rd, .int .i64 n] w (LiTo (liM (k + 1) rd n) w) := by
  have HV := Lib.hid (show liM (k + 1) rd n = [⟨22, rd, 0, 0, n⟩] by rw [liM, if_pos ⟨h1, h2⟩])
  have d1 : decide (-2048 ≤ n) = true := decide_eq_true h1
  have d2 : decide (n ≤ 2047) = true := decide_eq_true h2
  go_enter Tryd.func36, Tryd.ntmps36
  go_wp2
  go_ret
  exact ⟨_, rfl, by rw [HV.out]; exact OwnI.lit w _ (Nat.le_refl _) ⟨22, rd, 0, 0, n⟩, form1 w _⟩
theorem heap_new2 (w : World) (a b : Obj) : ((w.alloc a).alloc b).heap[w.heap.size + 1]? = some b := by
  have := heap_alloc_new (w.alloc a) b
  rw [World.size_alloc] at this
  exact this
theorem lit_at (W : World) (g : Nat) (i : In) (h : W.heap[g]? = some (.cells #[.int .i64 i.op, .int .i64 i.rd, .int .i64 i.a, .int .i64 i.b, .int .i64 i.n] 32 (0, 0))) : Cs W.heap.size W (some ⟨g, 0, none⟩) (icells [i]) := fun j hj => by
  refine ⟨g, 0, rfl, lt_of_block h, ?_⟩
  have h5 : j < 5 := by simpa [icells, In.cells] using hj
  rw [Nat.zero_add, cell_of_row _ _ j _ _ (0, 0) h]
  simp [icells, In.cells]
theorem two_le (w : World) (a b : Obj) : w.heap.size ≤ ((w.alloc a).alloc b).heap.size := (form2 w a b).size
set_option maxHeartbeats 1000000 in
theorem li_B (k : Nat) (rd n : Int) (w : World) (h0 : ¬ (-2048 ≤ n ∧ n ≤ 2047)) (h1 : -2147483648 ≤ n) (h2 : n < 2147483648) : Calls Tryd.prog 36 #[.int .i64 rd, .int .i64 n] w (LiTo (liM (k + 1) rd n) w) := by
  have e1 : wrap32 n = n := by unfold wrap32; omega
  obtain ⟨h, hh⟩ : ∃ h, (n + 2048) / 4096 = h := ⟨_, rfl⟩
  obtain ⟨l, hl⟩ : ∃ l, n - h * 4096 = l := ⟨_, rfl⟩
  have hll : lowI n = l := by unfold lowI; omega
  have HV := Lib.hid (show liM (k + 1) rd n = ⟨1, rd, 0, 0, if h = 524288 then -524288 else h⟩ :: (if l ≠ 0 then [⟨31, rd, rd, 0, l⟩] else []) by rw [liM, if_neg h0, if_pos ⟨h1, h2⟩, hh, hll])
  have b1 : -524288 ≤ h := by omega
  have b2 : h ≤ 524288 := by omega
  have b3 : -2048 ≤ l := by omega
  have b4 : l ≤ 2047 := by omega
  have e2 : wrap32 l = l := by unfold wrap32; omega
  have H5 := Lib.hid (show h = 524288 → h - 1048576 = -524288 by omega)
  clear hll
  rcases (show (decide (-2048 ≤ n) = false) ∨ (decide (-2048 ≤ n) = true ∧ decide (n ≤ 2047) = false) by
    by_cases h : -2048 ≤ n
    · exact .inr ⟨decide_eq_true h, decide_eq_false (by omega)⟩
    · exact .inl (decide_eq_false h)) with d1 | ⟨d1, d2⟩
  all_goals
    clear h0
    cases t1 : (h == 524288)
    · have HW := Lib.hid (show (if h = 524288 then -524288 else h) = h by rw [if_neg (by simpa using t1)])
      cases t2 : (l != 0)
      · have HW2 := Lib.hid (show (if l ≠ 0 then [(⟨31, rd, rd, 0, l⟩ : In)] else []) = [] by rw [if_neg (by simpa using t2)])
        go_enter Tryd.func36, Tryd.ntmps36
        go_wp2_with fail
        go_ret
        exact ⟨_, rfl, by rw [HV.out, HW.out, HW2.out]; exact OwnI.lit w _ (Nat.le_refl _) ⟨1, rd, 0, 0, h⟩, form1 w _⟩
      · have HW2 := Lib.hid (show (if l ≠ 0 then [(⟨31, rd, rd, 0, l⟩ : In)] else []) = [⟨31, rd, rd, 0, l⟩] by rw [if_pos (by simpa using t2)])
        go_enter Tryd.func36, Tryd.ntmps36
        go_wp2_with (at_builtin; refine wpList_appI _ rfl _ _ rfl w.heap.size _ [⟨1, rd, 0, 0, h⟩] rfl ((OwnI.lit w _ (Nat.le_refl _) ⟨1, rd, 0, 0, h⟩).below (form1 _ _)) _ _ 1 1 [⟨31, rd, rd, 0, l⟩] rfl rfl (lit_at _ _ ⟨31, rd, rd, 0, l⟩ (heap_new2 w _ _)) (by simp) (two_le _ _ _) ?_; intro v' w1 hown hbw _)
        go_ret
        exact ⟨_, rfl, by rw [HV.out, HW.out, HW2.out]; exact hown, hbw w (form2 w _ _)⟩
    · have t9 : h = 524288 := by simpa using t1
      have HW := Lib.hid (show (if h = 524288 then -524288 else h) = -524288 by rw [if_pos t9])
      have hx := H5.out t9
      clear t9
      cases t2 : (l != 0)
      · have HW2 := Lib.hid (show (if l ≠ 0 then [(⟨31, rd, rd, 0, l⟩ : In)] else []) = [] by rw [if_neg (by simpa using t2)])
        go_enter Tryd.func36, Tryd.ntmps36
        go_wp2_with fail
        go_ret
        exact ⟨_, rfl, by rw [HV.out, HW.out, HW2.out]; exact OwnI.lit w _ (Nat.le_refl _) ⟨1, rd, 0, 0, -524288⟩, form1 w _⟩
      · have HW2 := Lib.hid (show (if l ≠ 0 then [(⟨31, rd, rd, 0, l⟩ : In)] else []) = [⟨31, rd, rd, 0, l⟩] by rw [if_pos (by simpa using t2)])
        go_enter Tryd.func36, Tryd.ntmps36
        go_wp2_with (at_builtin; refine wpList_appI _ rfl _ _ rfl w.heap.size _ [⟨1, rd, 0, 0, -524288⟩] rfl ((OwnI.lit w _ (Nat.le_refl _) ⟨1, rd, 0, 0, -524288⟩).below (form1 _ _)) _ _ 1 1 [⟨31, rd, rd, 0, l⟩] rfl rfl (lit_at _ _ ⟨31, rd, rd, 0, l⟩ (heap_new2 w _ _)) (by simp) (two_le _ _ _) ?_; intro v' w1 hown hbw _)
        go_ret
        exact ⟨_, rfl, by rw [HV.out, HW.out, HW2.out]; exact hown, hbw w (form2 w _ _)⟩
end Go.Proofs
namespace Go.Pat
open Go Go.RowKit
/-- a number that k rounds of li are enough for. -/
def inB (k : Nat) (n : Int) : Prop := -2147483648 * (256 : Int) ^ k ≤ n ∧ n < 2147483648 * (256 : Int) ^ k
theorem pow256_pos (k : Nat) : (1 : Int) ≤ 256 ^ k := by have := Int.pow_pos (n := (256 : Int)) (m := k) (by decide); omega
theorem div_in {lo hi h : Int} (D : Int) (hD : 1 ≤ D) (h0 : lo ≤ 0) (h1 : 0 < hi) (a : lo ≤ h) (b : h < hi) : lo ≤ h / D ∧ h / D < hi := by
  constructor
  · rw [Int.le_ediv_iff_mul_le (by omega)]
    have := Int.mul_le_mul_of_nonneg_right h0 (show 0 ≤ D - 1 by omega)
    rw [Int.mul_sub, Int.mul_one, Int.zero_mul] at this
    omega
  · rw [Int.ediv_lt_iff_lt_mul (by omega)]
    have := Int.mul_nonneg (show 0 ≤ hi by omega) (show 0 ≤ D - 1 by omega)
    rw [Int.mul_sub, Int.mul_one] at this
    omega
theorem hi_in {k : Nat} {n : Int} (hr : -9223372036854775808 ≤ n ∧ n < 9223372036854775808) (h : inB (k + 1) n) (_hn : ¬ (-2147483648 ≤ n ∧ n < 2147483648)) (D : Int) (hD : 1 ≤ D) : inB k (hiI n / D) := by
  unfold inB at h ⊢
  rw [Int.pow_succ] at h
  have hp := pow256_pos k
  generalize (256 : Int) ^ k = P at *
  refine div_in D hD (by omega) (by omega) ?_ ?_ <;> (unfold hiI wrap64 lowI; omega)
theorem hi_rng {n : Int} (hr : -9223372036854775808 ≤ n ∧ n < 9223372036854775808) (hn : ¬ (-2147483648 ≤ n ∧ n < 2147483648)) : -2251799813685248 ≤ hiI n ∧ hiI n < 2251799813685248 ∧ hiI n ≠ 0 := by
  unfold hiI wrap64 lowI; omega
theorem ctz_lt (x : Nat) (hx : x < 18446744073709551616) (hx0 : x ≠ 0) : Lib.ctz 64 x < 64 := (Lib.lowest_bit 64 x hx0 hx).2
end Go.Pat
namespace Go.Proofs
open Go Go.RowKit Go.Pat
set_option maxRecDepth 20000 in
set_option maxHeartbeats 4000000 in
theorem li_C (k : Nat) (rd n : Int) (w : World) (hT : TzTab w) (h1 : ¬ (-2147483648 ≤ n ∧ n < 2147483648)) (hr : -9223372036854775808 ≤ n ∧ n < 9223372036854775808)
    (ih : ∀ (m : Int) (W : World), TzTab W → m = hiI n / 2 ^ tzI (hiI n) → Calls Tryd.prog 36 #[.int .i64 rd, .int .i64 m] W (LiTo (liM k rd m) W)) (hlen : (liM k rd (hiI n / 2 ^ tzI (hiI n))).length ≤ 1000) : Calls Tryd.prog 36 #[.int .i64 rd, .int .i64 n] w (LiTo (liM (k + 1) rd n) w) := by
  obtain ⟨r1, r2, r3⟩ := hi_rng hr h1
  have e1 : (n == wrap64 (wrap32 n)) = false := by rw [beq_eq_false_iff_ne]; unfold wrap32 wrap64; omega
  obtain ⟨l, hl⟩ : ∃ l, lowI n = l := ⟨_, rfl⟩
  obtain ⟨h, hh⟩ : ∃ h, hiI n = h := ⟨_, rfl⟩
  have hh2 : wrap64 (n - l) / 4096 = h := by rw [← hl, ← hh]; rfl
  have b3 : -2048 ≤ l := by unfold lowI at hl; omega
  have b4 : l ≤ 2047 := by unfold lowI at hl; omega
  rw [hh] at r1 r2 r3 ih hlen
  obtain ⟨x, hx⟩ : ∃ x : Nat, h % 18446744073709551616 = (x : Int) := ⟨(h % 18446744073709551616).toNat, by omega⟩
  have hxl : x < 18446744073709551616 := by omega
  have hx0 : x ≠ 0 := by omega
  have hz : tzI h = Lib.ctz 64 x := by unfold tzI; rw [hx]; rfl
  obtain ⟨z, hzz⟩ : ∃ z, Lib.ctz 64 x = z := ⟨_, rfl⟩
  have hz64 : z < 64 := by rw [← hzz]; exact ctz_lt x hxl hx0
  rw [hz, hzz] at ih hlen
  have HV := Lib.hid (show liM (k + 1) rd n = liM k rd (h / 2 ^ z) ++ (⟨28, rd, rd, 0, 12 + (z : Int)⟩ :: (if l ≠ 0 then [⟨22, rd, rd, 0, l⟩] else [])) by
    rw [liM, if_neg (by omega), if_neg h1, hh, hl, hz, hzz])
  have HT := Lib.hid (fun (W : World) (hW : TzTab W) => by have := tz_any x hxl hx0 W hW; rw [hzz] at this; exact this)
  obtain ⟨m, hm⟩ : ∃ m, h / 2 ^ z = m := ⟨_, rfl⟩
  rw [hm] at HV hlen
  have HM := Lib.hid hm
  have IH := Lib.hid (fun (W : World) (hW : TzTab W) => ih m W hW hm.symm)
  obtain ⟨L, hL⟩ : ∃ L, liM k rd m = L := ⟨_, rfl⟩
  rw [hL] at HV hlen IH
  clear ih hz hzz hm hh hL hx0 hr
  rcases (show (decide (-2048 ≤ n) = false) ∨ (decide (-2048 ≤ n) = true ∧ decide (n ≤ 2047) = false) by
    by_cases h : -2048 ≤ n
    · exact .inr ⟨decide_eq_true h, decide_eq_false (by omega)⟩
    · exact .inl (decide_eq_false h)) with d1 | ⟨d1, d2⟩
  all_goals
    clear h1
    go_enter Tryd.func36, Tryd.ntmps36
    go_wp2_with fail
    refine Calls.mono (alow_any n _) ?_
    rw [hl]
    rintro e w1 ⟨rfl, rfl⟩
    go_wp2_with fail
    rw [show IntKind.u64.wrap h = (x : Int) by rw [IntKind.wrap_u64]; exact hx]
    refine Calls.mono (HT.out _ hT) ?_
    rintro e w' ⟨rfl, rfl⟩
    clear e1 hh2 hx hl r1 r2 r3 hxl
    go_wp2_with fail
    rw [HM.out]
    refine Calls.mono (IH.out _ hT) ?_
    rintro e w2 ⟨v, rfl, hown, hB2⟩
    have hlL : L.length ≤ 1000 := hlen
    have hs2 := hB2.size
    cases t2 : (l != 0)
    · have HW2 := Lib.hid (show (if l ≠ 0 then [(⟨22, rd, rd, 0, l⟩ : In)] else []) = [] by rw [if_neg (by simpa using t2)])
      go_wp2_with (at_builtin; refine wpList_appI _ rfl _ _ rfl w'.heap.size _ L rfl (hown.below (form1 _ _)) _ _ 1 1 [⟨28, rd, rd, 0, 12 + (z : Int)⟩] rfl rfl (lit_at _ _ ⟨28, rd, rd, 0, 12 + (z : Int)⟩ (heap_alloc_new _ _)) (by omega) (Nat.le_trans hs2 (form1 _ _).size) ?_; intro v3 w3 hown3 hbw3 _)
      go_ret
      exact ⟨_, rfl, by rw [HV.out, HW2.out]; exact hown3, hbw3 _ (hB2.alloc hs2 _)⟩
    · have HW2 := Lib.hid (show (if l ≠ 0 then [(⟨22, rd, rd, 0, l⟩ : In)] else []) = [⟨22, rd, rd, 0, l⟩] by rw [if_pos (by simpa using t2)])
      go_wp2_with (first
        | (at_builtin; refine wpList_appI _ rfl (.tmp 67) _ rfl w'.heap.size _ L rfl (hown.below (form1 _ _)) _ _ 1 1 [⟨28, rd, rd, 0, 12 + (z : Int)⟩] rfl rfl (lit_at _ _ ⟨28, rd, rd, 0, 12 + (z : Int)⟩ (heap_alloc_new _ _)) (by omega) (Nat.le_trans hs2 (form1 _ _).size) ?_; intro v3 w3 hown3 hbw3 _; have hB3 := hbw3 _ (hB2.alloc hs2 _); have hs3 := hB3.size)
        | (at_builtin; refine wpList_appI _ rfl (.tmp 77) _ rfl w'.heap.size _ (L ++ [⟨28, rd, rd, 0, 12 + (z : Int)⟩]) rfl (hown3.below (form1 _ _)) _ _ 1 1 [⟨22, rd, rd, 0, l⟩] rfl rfl (lit_at _ _ ⟨22, rd, rd, 0, l⟩ (heap_alloc_new _ _)) (by simp; omega) (Nat.le_trans hs3 (form1 _ _).size) ?_; intro v4 w4 hown4 hbw4 _))
      go_ret
      exact ⟨_, rfl, by rw [HV.out, HW2.out]; simpa using hown4, hbw4 _ (hB3.alloc hs3 _)⟩
theorem opt_len (c : Prop) [Decidable c] (i : In) : (if c then [i] else []).length ≤ 1 := by split <;> simp
theorem liM_len (k : Nat) (rd n : Int) : (liM k rd n).length ≤ 2 * k := by
  induction k generalizing n with
  | zero => simp [liM]
  | succ k ih =>
    unfold liM
    have h1 := ih (hiI n / 2 ^ tzI (hiI n))
    have h2 := opt_len (lowI n ≠ 0) ⟨31, rd, rd, 0, lowI n⟩
    have h3 := opt_len (lowI n ≠ 0) ⟨22, rd, rd, 0, lowI n⟩
    split
    · simp only [List.length_cons, List.length_nil]; omega
    · split
      · rw [List.length_cons]; omega
      · rw [List.length_append, List.length_cons]; omega
theorem li_any (k : Nat) (hk : k ≤ 100) : ∀ (rd n : Int) (w : World), TzTab w → inB k n → -9223372036854775808 ≤ n ∧ n < 9223372036854775808 → Calls Tryd.prog 36 #[.int .i64 rd, .int .i64 n] w (LiTo (liM (k + 1) rd n) w) := by
  induction k with
  | zero =>
    intro rd n w hT hb hr
    have h : -2147483648 ≤ n ∧ n < 2147483648 := by simpa [inB] using hb
    by_cases h0 : -2048 ≤ n ∧ n ≤ 2047
    · exact li_A 0 rd n w h0.1 h0.2
    · exact li_B 0 rd n w h0 h.1 h.2
  | succ k ih =>
    intro rd n w hT hb hr
    by_cases h0 : -2048 ≤ n ∧ n ≤ 2047
    · exact li_A (k + 1) rd n w h0.1 h0.2
    · by_cases h : -2147483648 ≤ n ∧ n < 2147483648
      · exact li_B (k + 1) rd n w h0 h.1 h.2
      · have hD : (1 : Int) ≤ 2 ^ tzI (hiI n) := by have := Int.pow_pos (n := (2 : Int)) (m := tzI (hiI n)) (by decide); omega
        obtain ⟨r1, r2, _⟩ := hi_rng hr h
        have hd := div_in (lo := -2251799813685248) (hi := 2251799813685248) (2 ^ tzI (hiI n)) hD (by decide) (by decide) r1 r2
        refine li_C (k + 1) rd n w hT h hr ?_ (Nat.le_trans (liM_len _ _ _) (by omega))
        rintro m W hW rfl
        exact ih (by omega) rd _ W hW (hi_in hr hb h _ hD) ⟨by omega, by omega⟩
/-- the instructions that load a number. -/
def liL (rd n : Int) : List In := liM 6 rd n
theorem li_all (rd n : Int) (w : World) (hT : TzTab w) (hr : -9223372036854775808 ≤ n ∧ n < 9223372036854775808) : Calls Tryd.prog 36 #[.int .i64 rd, .int .i64 n] w (LiTo (liL rd n) w) :=
  li_any 5 (by decide) rd n w hT ⟨by have : (256 : Int) ^ 5 = 1099511627776 := by decide
                                     omega, by have : (256 : Int) ^ 5 = 1099511627776 := by decide
                                               omega⟩ hr
end Go.Proofs
