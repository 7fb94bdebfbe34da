/- patina/asm.low, li, Li: the instructions that load a number. -/
import Derived.Test.YtlhenglopnipaaaGreatDoorDecI
import Derived.Test.YtlhenglopnipaaaGreatDoorForms
import Derived.Test.YtlhenglopnipaaaGreatDoorItemA
import Derived.Test.YtlhenglopnipaaaGreatDoorRvP
import Derived.OwnWalk
import Derived.Laws.BitsLemmas
namespace Go.Pat
open Go Go.RowKit
def lowI (n : Int) : Int := (n + 2048) % 4096 - 2048
def hiI (n : Int) : Int := wrap64 (n - lowI n) / 4096
def tzI (h : Int) : Nat := Lib.ctz 64 (h % 18446744073709551616).toNat
/-- the instructions that load a number. -/
def liM : Nat → Int → Int → List In
  | 0, _, _ => []
  | k + 1, rd, n =>
    if -2048 ≤ n ∧ n ≤ 2047 then [⟨22, rd, 0, 0, n⟩]
    else if -2147483648 ≤ n ∧ n < 2147483648 then
      ⟨1, rd, 0, 0, if (n + 2048) / 4096 = 524288 then -524288 else (n + 2048) / 4096⟩ :: (if lowI n ≠ 0 then [⟨31, rd, rd, 0, lowI n⟩] else [])
    else liM k rd (hiI n / 2 ^ tzI (hiI n)) ++ (⟨28, rd, rd, 0, 12 + (tzI (hiI n) : Int)⟩ :: (if lowI n ≠ 0 then [⟨22, rd, rd, 0, lowI n⟩] else []))
end Go.Pat
namespace Go.Proofs
open Go Go.RowKit Go.Pat
theorem alow_any (n : Int) (w : World) : Calls Tryz.prog 100 #[.int .i64 n] w fun e w' => e = .returned (.int .i64 (lowI n)) ∧ w' = w := by
  go_enter Tryz.func100, Tryz.ntmps100
  go_wp2
  go_ret
  refine ⟨congrArg (fun z => Ending.returned (Value.int IntKind.i64 z)) ?_, rfl⟩
  unfold wrap64 lowI
  omega
def LiTo (l : List In) (w : World) (e : Ending) (w' : World) : Prop := ∃ v, e = .returned v ∧ OwnI w' w.heap.size v l ∧ Below w.heap.size w w'
theorem li_A (k : Nat) (rd n : Int) (w : World) (h1 : -2048 ≤ n) (h2 : n ≤ 2047) : Calls Tryz.prog 80 #[.int .i64 rd, .int .i64 n] w (LiTo (liM (k + 1) rd n) w) := by
  have HV := Lib.hid (show liM (k + 1) rd n = [⟨22, rd, 0, 0, n⟩] by rw [liM, if_pos ⟨h1, h2⟩])
  have d1 : decide (-2048 ≤ n) = true := decide_eq_true h1
  have d2 : decide (n ≤ 2047) = true := decide_eq_true h2
  go_enter Tryz.func80, Tryz.ntmps80
  go_wp2
  go_ret
  exact ⟨_, rfl, by rw [HV.out]; exact OwnI.lit w _ (Nat.le_refl _) ⟨22, rd, 0, 0, n⟩, form1 w _⟩
theorem heap_new2 (w : World) (a b : Obj) : ((w.alloc a).alloc b).heap[w.heap.size + 1]? = some b := by
  have := heap_alloc_new (w.alloc a) b
  rw [World.size_alloc] at this
  exact this
theorem lit_at (W : World) (g : Nat) (i : In) (h : W.heap[g]? = some (.cells #[.int .i64 i.op, .int .i64 i.rd, .int .i64 i.a, .int .i64 i.b, .int .i64 i.n] 26 (0, 0))) : Cs W.heap.size W (some ⟨g, 0, none⟩) (icells [i]) := fun j hj => by
  refine ⟨g, 0, rfl, lt_of_block h, ?_⟩
  have h5 : j < 5 := by simpa [icells, In.cells] using hj
  rw [Nat.zero_add, cell_of_row _ _ j _ _ (0, 0) h]
  simp [icells, In.cells]
theorem two_le (w : World) (a b : Obj) : w.heap.size ≤ ((w.alloc a).alloc b).heap.size := (form2 w a b).size
set_option maxHeartbeats 1000000 in
theorem li_B (k : Nat) (rd n : Int) (w : World) (h0 : ¬ (-2048 ≤ n ∧ n ≤ 2047)) (h1 : -2147483648 ≤ n) (h2 : n < 2147483648) : Calls Tryz.prog 80 #[.int .i64 rd, .int .i64 n] w (LiTo (liM (k + 1) rd n) w) := by
  have e1 : wrap32 n = n := by unfold wrap32; omega
  obtain ⟨h, hh⟩ : ∃ h, (n + 2048) / 4096 = h := ⟨_, rfl⟩
  obtain ⟨l, hl⟩ : ∃ l, n - h * 4096 = l := ⟨_, rfl⟩
  have hll : lowI n = l := by unfold lowI; omega
  have HV := Lib.hid (show liM (k + 1) rd n = ⟨1, rd, 0, 0, if h = 524288 then -524288 else h⟩ :: (if l ≠ 0 then [⟨31, rd, rd, 0, l⟩] else []) by rw [liM, if_neg h0, if_pos ⟨h1, h2⟩, hh, hll])
  have b1 : -524288 ≤ h := by omega
  have b2 : h ≤ 524288 := by omega
  have b3 : -2048 ≤ l := by omega
  have b4 : l ≤ 2047 := by omega
  have e2 : wrap32 l = l := by unfold wrap32; omega
  have H5 := Lib.hid (show h = 524288 → h - 1048576 = -524288 by omega)
  clear hll
  rcases (show (decide (-2048 ≤ n) = false) ∨ (decide (-2048 ≤ n) = true ∧ decide (n ≤ 2047) = false) by
    by_cases h : -2048 ≤ n
    · exact .inr ⟨decide_eq_true h, decide_eq_false (by omega)⟩
    · exact .inl (decide_eq_false h)) with d1 | ⟨d1, d2⟩
  all_goals
    clear h0
    cases t1 : (h == 524288)
    · have HW := Lib.hid (show (if h = 524288 then -524288 else h) = h by rw [if_neg (by simpa using t1)])
      cases t2 : (l != 0)
      · have HW2 := Lib.hid (show (if l ≠ 0 then [(⟨31, rd, rd, 0, l⟩ : In)] else []) = [] by rw [if_neg (by simpa using t2)])
        go_enter Tryz.func80, Tryz.ntmps80
        go_wp2_with fail
        go_ret
        exact ⟨_, rfl, by rw [HV.out, HW.out, HW2.out]; exact OwnI.lit w _ (Nat.le_refl _) ⟨1, rd, 0, 0, h⟩, form1 w _⟩
      · have HW2 := Lib.hid (show (if l ≠ 0 then [(⟨31, rd, rd, 0, l⟩ : In)] else []) = [⟨31, rd, rd, 0, l⟩] by rw [if_pos (by simpa using t2)])
        go_enter Tryz.func80, Tryz.ntmps80
        go_wp2_with (at_builtin; refine wpList_appI _ rfl _ _ rfl w.heap.size _ [⟨1, rd, 0, 0, h⟩] rfl ((OwnI.lit w _ (Nat.le_refl _) ⟨1, rd, 0, 0, h⟩).below (form1 _ _)) _ _ 1 1 [⟨31, rd, rd, 0, l⟩] rfl rfl (lit_at _ _ ⟨31, rd, rd, 0, l⟩ (heap_new2 w _ _)) (by simp) (two_le _ _ _) ?_; intro v' w1 hown hbw _)
        go_ret
        exact ⟨_, rfl, by rw [HV.out, HW.out, HW2.out]; exact hown, hbw w (form2 w _ _)⟩
    · have t9 : h = 524288 := by simpa using t1
      have HW := Lib.hid (show (if h = 524288 then -524288 else h) = -524288 by rw [if_pos t9])
      have hx := H5.out t9
      clear t9
      cases t2 : (l != 0)
      · have HW2 := Lib.hid (show (if l ≠ 0 then [(⟨31, rd, rd, 0, l⟩ : In)] else []) = [] by rw [if_neg (by simpa using t2)])
        go_enter Tryz.func80, Tryz.ntmps80
        go_wp2_with fail
        go_ret
        exact ⟨_, rfl, by rw [HV.out, HW.out, HW2.out]; exact OwnI.lit w _ (Nat.le_refl _) ⟨1, rd, 0, 0, -524288⟩, form1 w _⟩
      · have HW2 := Lib.hid (show (if l ≠ 0 then [(⟨31, rd, rd, 0, l⟩ : In)] else []) = [⟨31, rd, rd, 0, l⟩] by rw [if_pos (by simpa using t2)])
        go_enter Tryz.func80, Tryz.ntmps80
        go_wp2_with (at_builtin; refine wpList_appI _ rfl _ _ rfl w.heap.size _ [⟨1, rd, 0, 0, -524288⟩] rfl ((OwnI.lit w _ (Nat.le_refl _) ⟨1, rd, 0, 0, -524288⟩).below (form1 _ _)) _ _ 1 1 [⟨31, rd, rd, 0, l⟩] rfl rfl (lit_at _ _ ⟨31, rd, rd, 0, l⟩ (heap_new2 w _ _)) (by simp) (two_le _ _ _) ?_; intro v' w1 hown hbw _)
        go_ret
        exact ⟨_, rfl, by rw [HV.out, HW.out, HW2.out]; exact hown, hbw w (form2 w _ _)⟩
end Go.Proofs
namespace Go.Pat
open Go Go.RowKit
/-- a number that k rounds of li are enough for. -/
def inB (k : Nat) (n : Int) : Prop := -2147483648 * (256 : Int) ^ k ≤ n ∧ n < 2147483648 * (256 : Int) ^ k
theorem pow256_pos (k : Nat) : (1 : Int) ≤ 256 ^ k := by have := Int.pow_pos (n := (256 : Int)) (m := k) (by decide); omega
theorem div_in {lo hi h : Int} (D : Int) (hD : 1 ≤ D) (h0 : lo ≤ 0) (h1 : 0 < hi) (a : lo ≤ h) (b : h < hi) : lo ≤ h / D ∧ h / D < hi := by
  constructor
  · rw [Int.le_ediv_iff_mul_le (by omega)]
    have := Int.mul_le_mul_of_nonneg_right h0 (show 0 ≤ D - 1 by omega)
    rw [Int.mul_sub, Int.mul_one, Int.zero_mul] at this
    omega
  · rw [Int.ediv_lt_iff_lt_mul (by omega)]
    have := Int.mul_nonneg (show 0 ≤ hi by omega) (show 0 ≤ D - 1 by omega)
    rw [Int.mul_sub, Int.mul_one] at this
    omega
theorem hi_in {k : Nat} {n : Int} (hr : -9223372036854775808 ≤ n ∧ n < 9223372036854775808) (h : inB (k + 1) n) (_hn : ¬ (-2147483648 ≤ n ∧ n < 2147483648)) (D : Int) (hD : 1 ≤ D) : inB k (hiI n / D) := by
  unfold inB at h ⊢
  rw [Int.pow_succ] at h
  have hp := pow256_pos k
  generalize (256 : Int) ^ k = P at *
  refine div_in D hD (by omega) (by omega) ?_ ?_ <;> (unfold hiI wrap64 lowI; omega)
theorem hi_rng {n : Int} (hr : -9223372036854775808 ≤ n ∧ n < 9223372036854775808) (hn : ¬ (-2147483648 ≤ n ∧ n < 2147483648)) : -2251799813685248 ≤ hiI n ∧ hiI n < 2251799813685248 ∧ hiI n ≠ 0 := by
  unfold hiI wrap64 lowI; omega
theorem ctz_lt (x : Nat) (hx : x < 18446744073709551616) (hx0 : x ≠ 0) : Lib.ctz 64 x < 64 := (Lib.lowest_bit 64 x hx0 hx).2
end Go.Pat
namespace Go.Proofs
open Go Go.RowKit Go.Pat
set_option maxRecDepth 20000 in
set_option maxHeartbeats 4000000 in
theorem li_C (k : Nat) (rd n : Int) (w : World) (hT : TzTab w) (h1 : ¬ (-2147483648 ≤ n ∧ n < 2147483648)) (hr : -9223372036854775808 ≤ n ∧ n < 9223372036854775808)
    (ih : ∀ (m : Int) (W : World), TzTab W → m = hiI n / 2 ^ tzI (hiI n) → Calls Tryz.prog 80 #[.int .i64 rd, .int .i64 m] W (LiTo (liM k rd m) W)) (hlen : (liM k rd (hiI n / 2 ^ tzI (hiI n))).length ≤ 1000) : Calls Tryz.prog 80 #[.int .i64 rd, .int .i64 n] w (LiTo (liM (k + 1) rd n) w) := by
  obtain ⟨r1, r2, r3⟩ := hi_rng hr h1
  have e1 : (n == wrap64 (wrap32 n)) = false := by rw [beq_eq_false_iff_ne]; unfold wrap32 wrap64; omega
  obtain ⟨l, hl⟩ : ∃ l, lowI n = l := ⟨_, rfl⟩
  obtain ⟨h, hh⟩ : ∃ h, hiI n = h := ⟨_, rfl⟩
  have hh2 : wrap64 (n - l) / 4096 = h := by rw [← hl, ← hh]; rfl
  have b3 : -2048 ≤ l := by unfold lowI at hl; omega
  have b4 : l ≤ 2047 := by unfold lowI at hl; omega
  rw [hh] at r1 r2 r3 ih hlen
  obtain ⟨x, hx⟩ : ∃ x : Nat, h % 18446744073709551616 = (x : Int) := ⟨(h % 18446744073709551616).toNat, by omega⟩
  have hxl : x < 18446744073709551616 := by omega
  have hx0 : x ≠ 0 := by omega
  have hz : tzI h = Lib.ctz 64 x := by unfold tzI; rw [hx]; rfl
  obtain ⟨z, hzz⟩ : ∃ z, Lib.ctz 64 x = z := ⟨_, rfl⟩
  have hz64 : z < 64 := by rw [← hzz]; exact ctz_lt x hxl hx0
  rw [hz, hzz] at ih hlen
  have HV := Lib.hid (show liM (k + 1) rd n = liM k rd (h / 2 ^ z) ++ (⟨28, rd, rd, 0, 12 + (z : Int)⟩ :: (if l ≠ 0 then [⟨22, rd, rd, 0, l⟩] else [])) by
    rw [liM, if_neg (by omega), if_neg h1, hh, hl, hz, hzz])
  have HT := Lib.hid (fun (W : World) (hW : TzTab W) => by have := tz_any x hxl hx0 W hW; rw [hzz] at this; exact this)
  obtain ⟨m, hm⟩ : ∃ m, h / 2 ^ z = m := ⟨_, rfl⟩
  rw [hm] at HV hlen
  have HM := Lib.hid hm
  have IH := Lib.hid (fun (W : World) (hW : TzTab W) => ih m W hW hm.symm)
  obtain ⟨L, hL⟩ : ∃ L, liM k rd m = L := ⟨_, rfl⟩
  rw [hL] at HV hlen IH
  clear ih hz hzz hm hh hL hx0 hr
  rcases (show (decide (-2048 ≤ n) = false) ∨ (decide (-2048 ≤ n) = true ∧ decide (n ≤ 2047) = false) by
    by_cases h : -2048 ≤ n
    · exact .inr ⟨decide_eq_true h, decide_eq_false (by omega)⟩
    · exact .inl (decide_eq_false h)) with d1 | ⟨d1, d2⟩
  all_goals
    clear h1
    go_enter Tryz.func80, Tryz.ntmps80
    go_wp2_with fail
    refine Calls.mono (alow_any n _) ?_
    rw [hl]
    rintro e w1 ⟨rfl, rfl⟩
    go_wp2_with fail
    rw [show IntKind.u64.wrap h = (x : Int) by rw [IntKind.wrap_u64]; exact hx]
    refine Calls.mono (HT.out _ hT) ?_
    rintro e w' ⟨rfl, rfl⟩
    clear e1 hh2 hx hl r1 r2 r3 hxl
    go_wp2_with fail
    rw [HM.out]
    refine Calls.mono (IH.out _ hT) ?_
    rintro e w2 ⟨v, rfl, hown, hB2⟩
    have hlL : L.length ≤ 1000 := hlen
    have hs2 := hB2.size
    cases t2 : (l != 0)
    · have HW2 := Lib.hid (show (if l ≠ 0 then [(⟨22, rd, rd, 0, l⟩ : In)] else []) = [] by rw [if_neg (by simpa using t2)])
      go_wp2_with (at_builtin; refine wpList_appI _ rfl _ _ rfl w'.heap.size _ L rfl (hown.below (form1 _ _)) _ _ 1 1 [⟨28, rd, rd, 0, 12 + (z : Int)⟩] rfl rfl (lit_at _ _ ⟨28, rd, rd, 0, 12 + (z : Int)⟩ (heap_alloc_new _ _)) (by omega) (Nat.le_trans hs2 (form1 _ _).size) ?_; intro v3 w3 hown3 hbw3 _)
      go_ret
      exact ⟨_, rfl, by rw [HV.out, HW2.out]; exact hown3, hbw3 _ (hB2.alloc hs2 _)⟩
    · have HW2 := Lib.hid (show (if l ≠ 0 then [(⟨22, rd, rd, 0, l⟩ : In)] else []) = [⟨22, rd, rd, 0, l⟩] by rw [if_pos (by simpa using t2)])
      go_wp2_with (first
        | (at_builtin; refine wpList_appI _ rfl (.tmp 67) _ rfl w'.heap.size _ L rfl (hown.below (form1 _ _)) _ _ 1 1 [⟨28, rd, rd, 0, 12 + (z : Int)⟩] rfl rfl (lit_at _ _ ⟨28, rd, rd, 0, 12 + (z : Int)⟩ (heap_alloc_new _ _)) (by omega) (Nat.le_trans hs2 (form1 _ _).size) ?_; intro v3 w3 hown3 hbw3 _; have hB3 := hbw3 _ (hB2.alloc hs2 _); have hs3 := hB3.size)
        | (at_builtin; refine wpList_appI _ rfl (.tmp 77) _ rfl w'.heap.size _ (L ++ [⟨28, rd, rd, 0, 12 + (z : Int)⟩]) rfl (hown3.below (form1 _ _)) _ _ 1 1 [⟨22, rd, rd, 0, l⟩] rfl rfl (lit_at _ _ ⟨22, rd, rd, 0, l⟩ (heap_alloc_new _ _)) (by simp; omega) (Nat.le_trans hs3 (form1 _ _).size) ?_; intro v4 w4 hown4 hbw4 _))
      go_ret
      exact ⟨_, rfl, by rw [HV.out, HW2.out]; simpa using hown4, hbw4 _ (hB3.alloc hs3 _)⟩
theorem opt_len (c : Prop) [Decidable c] (i : In) : (if c then [i] else []).length ≤ 1 := by split <;> simp
theorem liM_len (k : Nat) (rd n : Int) : (liM k rd n).length ≤ 2 * k := by
  induction k generalizing n with
  | zero => simp [liM]
  | succ k ih =>
    unfold liM
    have h1 := ih (hiI n / 2 ^ tzI (hiI n))
    have h2 := opt_len (lowI n ≠ 0) ⟨31, rd, rd, 0, lowI n⟩
    have h3 := opt_len (lowI n ≠ 0) ⟨22, rd, rd, 0, lowI n⟩
    split
    · simp only [List.length_cons, List.length_nil]; omega
    · split
      · rw [List.length_cons]; omega
      · rw [List.length_append, List.length_cons]; omega
theorem li_any (k : Nat) (hk : k ≤ 100) : ∀ (rd n : Int) (w : World), TzTab w → inB k n → -9223372036854775808 ≤ n ∧ n < 9223372036854775808 → Calls Tryz.prog 80 #[.int .i64 rd, .int .i64 n] w (LiTo (liM (k + 1) rd n) w) := by
  induction k with
  | zero =>
    intro rd n w hT hb hr
    have h : -2147483648 ≤ n ∧ n < 2147483648 := by simpa [inB] using hb
    by_cases h0 : -2048 ≤ n ∧ n ≤ 2047
    · exact li_A 0 rd n w h0.1 h0.2
    · exact li_B 0 rd n w h0 h.1 h.2
  | succ k ih =>
    intro rd n w hT hb hr
    by_cases h0 : -2048 ≤ n ∧ n ≤ 2047
    · exact li_A (k + 1) rd n w h0.1 h0.2
    · by_cases h : -2147483648 ≤ n ∧ n < 2147483648
      · exact li_B (k + 1) rd n w h0 h.1 h.2
      · have hD : (1 : Int) ≤ 2 ^ tzI (hiI n) := by have := Int.pow_pos (n := (2 : Int)) (m := tzI (hiI n)) (by decide); omega
        obtain ⟨r1, r2, _⟩ := hi_rng hr h
        have hd := div_in (lo := -2251799813685248) (hi := 2251799813685248) (2 ^ tzI (hiI n)) hD (by decide) (by decide) r1 r2
        refine li_C (k + 1) rd n w hT h hr ?_ (Nat.le_trans (liM_len _ _ _) (by omega))
        rintro m W hW rfl
        exact ih (by omega) rd _ W hW (hi_in hr hb h _ hD) ⟨by omega, by omega⟩
/-- the instructions that load a number. -/
def liL (rd n : Int) : List In := liM 6 rd n
theorem li_all (rd n : Int) (w : World) (hT : TzTab w) (hr : -9223372036854775808 ≤ n ∧ n < 9223372036854775808) : Calls Tryz.prog 80 #[.int .i64 rd, .int .i64 n] w (LiTo (liL rd n) w) :=
  li_any 5 (by decide) rd n w hT ⟨by have : (256 : Int) ^ 5 = 1099511627776 := by decide
                                     omega, by have : (256 : Int) ^ 5 = 1099511627776 := by decide
                                               omega⟩ hr
end Go.Proofs

/- patina/asm.little, raw, least: bytes of numbers, of items that are no instructions; how long an item is at first. -/
namespace Go.Proofs
open Go Go.RowKit Go.Pat
/-- a value's own block is another's, or new. -/
def NewOr (w : World) (v v' : Value) : Prop := ∀ g, v'.ownBlock = some g → v.ownBlock = some g ∨ w.heap.size ≤ g
theorem wpList_appB2 {ops : Array Oper} {rest : List Oper} {o : Oper} {a : Act} {Q : Exit → Act → World → Prop} (w : World) (hgd : o.guard = none) (s x : Operand)
    (ho : o.op = .call { callee := .builtin .append, args := #[s, x], argTypes := #[35, 35] }) (base : Nat) (v : Value) (l : List UInt8) (hs : a.eval s = v) (hown : OwnB w base v l)
    (B : Nat) (A : Option Addr) (n c : Nat) (m : List UInt8) (hx : a.eval x = .slice A n c) (hn : m.length = n) (hr : Bs B w A m) (hlen : l.length + n ≤ 140737488355328) (hbase : base ≤ w.heap.size)
    (h : ∀ v' w', OwnB w' base v' (l ++ m) → (∀ W, Below base W w → Below base W w') → (∀ g, g < w.heap.size → v.ownBlock ≠ some g → w'.heap[g]? = w.heap[g]?) → NewOr w v v' → w.heap.size ≤ w'.heap.size → wpList Tryz.prog ops Q rest (a.put o.dst v') w') :
    wpList Tryz.prog ops Q (o :: rest) a w := by
  refine wpList_app w hgd s x 35 ho Tryz_elU8 base v l.length (bcells l) hs hown B A n c (bcells m) hx (by rw [bcells_length, hn, Nat.mul_one]) hr (bcells_one m) (by simp only [maxLen]; omega) (by rw [Nat.mul_one]; exact hlen) hbase ?_
  intro v' w' h1 hg hnil hat
  refine h v' w' ?_ (fun W hW => own_below hown hW hg hbase) (fun g hg1 hg2 => hg.block g hg1 (fun e => hg2 e.symm)) (fun g hg3 => ?_) hg.size
  · unfold OwnB
    rw [List.length_append, hn, bcells_append]
    exact h1
  · rcases hat with h2 | h2
    · exact .inl (h2 ▸ hg3)
    · rw [h2] at hg3
      exact .inr (by have := Option.some.inj hg3; omega)
def LittleTo (base : Nat) (v : Value) (l : List UInt8) (w : World) (e : Ending) (w' : World) : Prop :=
  ∃ v', e = .returned v' ∧ OwnB w' base v' l ∧ (∀ W, Below base W w → Below base W w') ∧ (∀ g, g < w.heap.size → v.ownBlock ≠ some g → w'.heap[g]? = w.heap[g]?) ∧ NewOr w v v' ∧ w.heap.size ≤ w'.heap.size
theorem alittle_any (w : World) (base : Nat) (v : Value) (l : List UInt8) (x n : Nat) (hv : OwnB w base v l) (hbase : base ≤ w.heap.size) (hx : x < 18446744073709551616) (hn : n ≤ 8) (hl : l.length ≤ 140737488000000) :
    Calls Tryz.prog 64 #[v, .int .u64 (x : Int), .int .i64 (n : Int)] w (LittleTo base v (l ++ le n x) w) := by
  go_enter Tryz.func64, Tryz.ntmps64
  go_wp2
  go_loopw [0, 1, 8] (fun out q i wr => ∃ j : Nat, j ≤ n ∧ i = .int .i64 j ∧ q = .int .u64 ((x / 256 ^ j : Nat) : Int) ∧ OwnB wr base out (l ++ le j x) ∧ (∀ W, Below base W w → Below base W wr) ∧ (∀ g, g < w.heap.size → v.ownBlock ≠ some g → wr.heap[g]? = w.heap[g]?) ∧ NewOr w v out ∧ w.heap.size ≤ wr.heap.size) (fun _ _ i _ => n - (intOf i).toNat)
  case atStart => exact ⟨0, by omega, rfl, by simp, by simpa [le] using hv, fun _ h => h, fun _ _ _ => rfl, fun _ h => .inl h, Nat.le_refl _⟩
  case round =>
    obtain ⟨j, hj, rfl, rfl, hown, hB, hK, hN, hS⟩ := hrel
    by_cases hlt : j < n
    · have hd3 : decide ((j : Int) < (n : Int)) = true := by simp; omega
      obtain ⟨q, hq⟩ : ∃ q, q = x / 256 ^ j := ⟨_, rfl⟩
      have hqv : q < 18446744073709551616 := by rw [hq]; exact Nat.lt_of_le_of_lt (Nat.div_le_self _ _) hx
      rw [← hq]
      have HQ := Lib.hid hq
      have HK := Lib.hid hK
      have HB := Lib.hid hB
      clear hq hK hB
      go_wp2_with (at_builtin; refine wpList_appB2 _ rfl _ _ rfl base _ (l ++ le j x) rfl (hown.alloc _) _ _ 1 1 [UInt8.ofNat q] rfl rfl (lit_bs _ _ _ _ ?hx) (by rw [List.length_append, le_length]; omega) ?hb ?hk)
      case hx => rw [UInt8.toNat_ofNat']; omega
      case hb => rw [World.size_alloc]; omega
      case hk =>
        intro v' w1 hown' hB' hK' hN' hS'
        have hS2 : wr.heap.size + 1 ≤ w1.heap.size := by first | exact hS' | (rw [World.size_alloc] at hS'; exact hS')
        first | rw [HQ.out, ← le_succ] at hown' | rw [HQ.out, List.append_assoc, ← le_succ] at hown'
        have HB1 := Lib.hid (show ∀ W, Below base W w → Below base W w1 from fun W hW => hB' W ((HB.out W hW).alloc (by omega) _))
        have HK1 := Lib.hid (show ∀ g, g < w.heap.size → v.ownBlock ≠ some g → w1.heap[g]? = w.heap[g]? from fun g h1 h2 => by
          rw [hK' g (by first | omega | (rw [World.size_alloc]; omega)) (fun e => by rcases hN g e with h | h; exact h2 h; omega), Below.heap_alloc _ _ g (by omega)]
          exact HK.out g h1 h2)
        have HN1 := Lib.hid (show NewOr w v v' from fun g h => by
          rcases hN' g h with h | h
          · exact hN g h
          · exact .inr (by first | omega | (rw [World.size_alloc] at h; omega)))
        clear hB' hK' hN' hown hN
        go_wp2
        go_roundw
        case rel =>
          refine ⟨j + 1, by omega, by go_num, ?_, hown', HB1.out, HK1.out, HN1.out, by omega⟩
          rw [HQ.out, Nat.pow_succ, ← Nat.div_div_eq_div_mul]
          exact congrArg (Value.int .u64) (by omega)
        case measure => simp [intOf]; omega
    · have hd3 : decide ((j : Int) < (n : Int)) = false := by simp; omega
      obtain rfl : j = n := by omega
      have HP := Lib.hid (And.intro hown (And.intro hB (And.intro hK (And.intro hN hS))))
      clear hown hB hK hN hS
      go_wp2
      go_ret
      exact ⟨_, rfl, HP.out.1, HP.out.2.1, HP.out.2.2.1, HP.out.2.2.2.1, HP.out.2.2.2.2⟩
end Go.Proofs
namespace Go.Pat
open Go Go.RowKit
/-- how many bytes an item takes at first. -/
def leastM (x : It) : Int := if x.k = 3 then 4 * ((Go.Proofs.liL x.rd x.n).length : Int) else if x.k = 4 ∨ x.k = 8 then 8 else if x.k = 9 then x.n else if x.k = 1 then 0 else 4
end Go.Pat
namespace Go.Proofs
open Go Go.RowKit Go.Pat
theorem aleast_any (x : It) (hr : -9223372036854775808 ≤ x.n ∧ x.n < 9223372036854775808) (w : World) (hT : TzTab w) : Calls Tryz.prog 59 #[.agg x.cs] w (ErrTo (leastM x) w) := by
  obtain ⟨k, s, op, rd, a, b, n⟩ := x
  show Calls Tryz.prog 59 #[.agg #[.int .i64 k, .string s, .int .i64 op, .int .i64 rd, .int .i64 a, .int .i64 b, .int .i64 n]] w (ErrTo (leastM ⟨k, s, op, rd, a, b, n⟩) w)
  obtain ⟨v, hv⟩ : ∃ v, v = leastM ⟨k, s, op, rd, a, b, n⟩ := ⟨_, rfl⟩
  rw [← hv]
  have HV := Lib.hid (show v = if k = 3 then 4 * ((liL rd n).length : Int) else if k = 4 ∨ k = 8 then 8 else if k = 9 then n else if k = 1 then 0 else 4 from hv)
  clear hv
  simp only at hr
  by_cases h3 : k = 3
  · subst h3
    have hT0 := hT.below (form1 w (.cells #[.int .i64 3, .string s, .int .i64 op, .int .i64 rd, .int .i64 a, .int .i64 b, .int .i64 n] 28))
    have HL := Lib.hid (fun W (hW : TzTab W) => li_all rd n W hW hr)
    have hll : (liL rd n).length ≤ 12 := liM_len 6 rd n
    clear hr hT
    go_enter Tryz.func59, Tryz.ntmps59
    go_wp2_with fail
    refine Calls.mono (HL.out _ hT0) ?_
    rintro e w2 ⟨v1, rfl, hown, hB2⟩
    obtain ⟨A1, c1, rfl, hc1⟩ := hown.form
    clear hown hc1
    go_wp2
    go_ret
    exact ⟨by rw [HV.out]; rfl, (form1 w _).trans (hB2.mono (form1 w _).size)⟩
  · have t3 : (k == 3) = false := by simpa using h3
    by_cases h4 : k = 4
    · subst h4
      clear h3 hr
      go_enter Tryz.func59, Tryz.ntmps59
      go_wp2
      go_ret
      exact ⟨by rw [HV.out]; rfl, form1 w _⟩
    · have t4 : (k == 4) = false := by simpa using h4
      by_cases h8 : k = 8
      · subst h8
        clear h3 h4 hr
        go_enter Tryz.func59, Tryz.ntmps59
        go_wp2
        go_ret
        exact ⟨by rw [HV.out]; rfl, form1 w _⟩
      · have t8 : (k == 8) = false := by simpa using h8
        by_cases h9 : k = 9
        · subst h9
          clear h3 h4 h8 hr
          go_enter Tryz.func59, Tryz.ntmps59
          go_wp2
          go_ret
          exact ⟨by rw [HV.out]; rfl, form1 w _⟩
        · have t9 : (k == 9) = false := by simpa using h9
          by_cases h1 : k = 1
          · subst h1
            clear h3 h4 h8 h9 hr
            go_enter Tryz.func59, Tryz.ntmps59
            go_wp2
            go_ret
            exact ⟨by rw [HV.out]; rfl, form1 w _⟩
          · have t1 : (k == 1) = false := by simpa using h1
            have HV2 := Lib.hid (show v = 4 by rw [HV.out, if_neg h3, if_neg (by omega), if_neg h9, if_neg h1])
            clear h3 h4 h8 h9 h1 hr HV
            go_enter Tryz.func59, Tryz.ntmps59
            go_wp2
            go_ret
            exact ⟨by rw [HV2.out]; rfl, form1 w _⟩
end Go.Proofs

/- patina/asm.raw: the bytes of an item that is no instruction. -/
namespace Go.Pat
open Go Go.RowKit
def rawM (x : It) : List UInt8 := if x.k = 8 then le 8 (wrN x.n) else if x.k = 9 then List.replicate x.n.toNat 0 else []
theorem made_zero (n : Nat) : (madeCells #[.int .u8 0] n).toList = bcells (List.replicate n 0) := by
  apply List.ext_getElem?
  intro i
  rw [Array.getElem?_toList]
  by_cases h : i < n
  · unfold madeCells bcells
    simp [h, Nat.mod_one, bval]
  · unfold madeCells bcells
    simp [h]
end Go.Pat
namespace Go.Proofs
open Go Go.RowKit Go.Pat
def RawTo (l : List UInt8) (w : World) (e : Ending) (w' : World) : Prop := ∃ v, e = .returned v ∧ OwnB w' w.heap.size v l ∧ Below w.heap.size w w'
set_option maxHeartbeats 1000000 in
theorem araw_any (x : It) (h9 : x.k = 9 → 0 ≤ x.n ∧ x.n ≤ 1048576) (w : World) : Calls Tryz.prog 31 #[.agg x.cs] w (RawTo (rawM x) w) := by
  obtain ⟨k, s, op, rd, a, b, n⟩ := x
  show Calls Tryz.prog 31 #[.agg #[.int .i64 k, .string s, .int .i64 op, .int .i64 rd, .int .i64 a, .int .i64 b, .int .i64 n]] w (RawTo (rawM ⟨k, s, op, rd, a, b, n⟩) w)
  simp only at h9
  by_cases h8 : k = 8
  · subst h8
    have HV := Lib.hid (show rawM ⟨8, s, op, rd, a, b, n⟩ = le 8 (wrN n) from rfl)
    obtain ⟨y, hy⟩ : ∃ y, wrN n = y := ⟨_, rfl⟩
    have hyu : IntKind.u64.wrap n = (y : Int) := by rw [← hy, wrN_is]
    have hyl : y < 18446744073709551616 := by rw [← hy]; exact wrN_lt n
    rw [hy] at HV
    clear h9 hy
    go_enter Tryz.func31, Tryz.ntmps31
    go_wp2_with fail
    refine Calls.mono (alittle_any _ w.heap.size (.slice none 0 0) [] y 8 (OwnB.nil _ _) (form1 w _).size hyl (by decide) (by decide)) ?_
    rintro e w2 ⟨v, rfl, hown, hB, _, _, _⟩
    have HP := Lib.hid (And.intro hown (hB w (form1 w _)))
    clear hown hB
    go_wp2
    go_ret
    exact ⟨_, rfl, by rw [HV.out]; exact HP.out.1, HP.out.2⟩
  · have t8 : (k == 8) = false := by simpa using h8
    by_cases h : k = 9
    · subst h
      obtain ⟨a0, a1⟩ := h9 rfl
      obtain ⟨m, rfl⟩ : ∃ m : Nat, n = m := ⟨n.toNat, by omega⟩
      have HV := Lib.hid (show rawM ⟨9, s, op, rd, a, b, (m : Int)⟩ = List.replicate m 0 by unfold rawM; rw [if_neg h8, if_pos rfl, Int.toNat_natCast])
      clear h9 h8
      obtain ⟨i, hi, hz0, hz1, hz2⟩ := info_parts Tryz_info_u8
      go_enter Tryz.func31, Tryz.ntmps31
      go_wp2_with (at_make; refine wpList_make_full _ rfl _ _ _ rfl w.heap.size _ i (.int .u8 0) 1 Tryz.underlying35 hi hz0 hz1 .i64 .i64 (m : Int) (m : Int) m rfl rfl rfl rfl (by rw [hz2]; omega) (by unfold maxLen; omega) (form1 w _).size ?_; intro w2 hown hg)
      have hB2 : Below w.heap.size w w2 := own_below (OwnB.nil (w.alloc (.cells #[.int .i64 9, .string s, .int .i64 op, .int .i64 rd, .int .i64 a, .int .i64 b, .int .i64 m] 28)) w.heap.size) (form1 w _) hg (form1 w _).size
      go_ret
      refine ⟨_, rfl, ?_, hB2⟩
      rw [HV.out]
      unfold OwnB
      rw [List.length_replicate, ← made_zero]
      have hc : (Value.int IntKind.u8 0).cells = #[.int .u8 0] := rfl
      rw [hc, Nat.mul_one, World.size_alloc] at hown
      exact hown
    · have t9 : (k == 9) = false := by simpa using h
      have HV := Lib.hid (show rawM ⟨k, s, op, rd, a, b, n⟩ = [] by unfold rawM; rw [if_neg h8, if_neg h])
      clear h9 h8 h
      go_enter Tryz.func31, Tryz.ntmps31
      go_wp2
      go_ret
      exact ⟨_, rfl, by rw [HV.out]; exact OwnB.nil _ _, form1 w _⟩
end Go.Proofs

/- patinaref05.Load, Li; patina/asm.Li: the same instructions. -/
namespace Go.Pat
open Go Go.RowKit
theorem i64_and1 (n : Int) : bits .and .i64 n 1 = n % 2 := by
  have h1 : (BitVec.ofInt 64 1).toNat = 2 ^ 1 - 1 := by decide
  have key : (BitVec.ofInt 64 n &&& BitVec.ofInt 64 1).toNat = (n % ((2 ^ 64 : Nat) : Int)).toNat % 2 ^ 1 := by
    rw [BitVec.toNat_and, BitVec.toNat_ofInt, h1, Nat.and_two_pow_sub_one_eq_mod]
  show IntKind.i64.wrap ((BitVec.ofInt 64 n &&& BitVec.ofInt 64 1).toNat : Nat) = n % 2
  rw [key, IntKind.wrap_i64]
  omega
theorem par_eq {h : Int} {x j : Nat} (hx : h % 18446744073709551616 = (x : Int)) (hj : j < 64) : h / 2 ^ j % 2 = ((x / 2 ^ j % 2 : Nat) : Int) := by
  have e : (18446744073709551616 : Int) = 2 ^ j * (2 * 2 ^ (63 - j)) := by rw [← Int.pow_succ', ← Int.pow_add, show j + (63 - j + 1) = 64 by omega]; rfl
  have hc := Int.emod_add_mul_ediv h 18446744073709551616
  rw [hx] at hc
  have h2 : h = (x : Int) + 2 ^ j * (2 * (2 ^ (63 - j) * (h / 18446744073709551616))) := by
    rw [← Int.mul_assoc 2, ← Int.mul_assoc (2 ^ j), ← e]; exact hc.symm
  have hne : (2 : Int) ^ j ≠ 0 := by have := Int.pow_pos (n := (2 : Int)) (m := j) (by decide); omega
  rw [h2, Int.add_mul_ediv_left _ _ hne, ediv_pow]
  omega
theorem par_lo {h : Int} {x z j : Nat} (hx : h % 18446744073709551616 = (x : Int)) (hxl : x < 18446744073709551616) (hx0 : x ≠ 0) (hz : Lib.ctz 64 x = z) (hj : j < z) : h / 2 ^ j % 2 = 0 := by
  have hz64 : z < 64 := by rw [← hz]; exact ctz_lt x hxl hx0
  obtain ⟨m, hm, _⟩ := Lib.ctzFrom_spec 64 x (by omega) hxl
  have e : Lib.ctzFrom 64 x = z := by rw [← hz]; unfold Lib.ctz; rw [if_neg hx0]
  rw [e] at hm
  rw [par_eq hx (by omega), hm, show z = j + ((z - j - 1) + 1) by omega, Nat.pow_add, Nat.mul_assoc, Nat.mul_div_cancel_left _ (Nat.pow_pos (by decide)), Nat.pow_succ, Nat.mul_comm _ 2, Nat.mul_assoc]
  omega
theorem par_at {h : Int} {x z : Nat} (hx : h % 18446744073709551616 = (x : Int)) (hxl : x < 18446744073709551616) (hx0 : x ≠ 0) (hz : Lib.ctz 64 x = z) : h / 2 ^ z % 2 ≠ 0 := by
  have hz64 : z < 64 := by rw [← hz]; exact ctz_lt x hxl hx0
  obtain ⟨m, hm, _⟩ := Lib.ctzFrom_spec 64 x (by omega) hxl
  have e : Lib.ctzFrom 64 x = z := by rw [← hz]; unfold Lib.ctz; rw [if_neg hx0]
  rw [e] at hm
  rw [par_eq hx hz64, hm, Nat.mul_div_cancel_left _ (Nat.pow_pos (by decide))]
  omega
end Go.Pat
namespace Go.Proofs
open Go Go.RowKit Go.Pat
def rdOK (rd : Int) : Bool := decide (0 ≤ rd) && decide (rd ≤ 31)
/-- what Li tells. -/
def LiRes (rd n : Int) (w : World) (e : Ending) (w' : World) : Prop :=
  ∃ v, e = .returned (.tuple #[v, .int .i64 (if rdOK rd then 0 else 1)]) ∧ OwnI w' w.heap.size v (if rdOK rd then liL rd n else []) ∧ Below w.heap.size w w'
end Go.Proofs
