/- The instructions that load a number make it, and each is right. Plain: no program in sight. -/
import Derived.Test.YtemngapfnkokiaaDoorLiR
import Derived.Test.YtemngapfnkokiaaDoorAluR
import Derived.Test.YtemngapfnkokiaaDoorStepP
import Derived.Test.YtemngapfnkokiaaDoorRightR
import Derived.Test.YtemngapfnkokiaaDoorLoads
import Derived.Test.YtemngapfnkokiaaDoorAsm
import Derived.Test.YtemngapfnkokiaaDoorRows
import Derived.Test.YtemngapfnkokiaaDoorDec
import Derived.ProofKit
import Derived.LaidMore
import Derived.OpenShut
import Derived.Lib.SmallJoins
import Derived.Stop.Joined
import Derived.Test.YtemngapfnkokiaaDoorInsL
namespace Go.Pat
open Go Go.RowKit
def ldStep (x : Nat) (i : In) : Nat := if i.op = 1 then wrN i.n * 4096 % 18446744073709551616 else (aluV i.op.toNat (if i.a = 0 then 0 else x) (wrN i.n)).toNat
def ldRun (x : Nat) (l : List In) : Nat := l.foldl ldStep x
theorem wrN_cast (z : Int) : ((wrN z : Nat) : Int) = z % 18446744073709551616 := by unfold wrN; omega
theorem aluV_22 (a b : Nat) : aluV 22 a b = fullV 35 a b := by
  unfold aluV
  rw [show halfOf 22 = false from rfl, show pOf 22 = 35 from rfl, if_neg (by decide)]
theorem aluV_28 (a b : Nat) : aluV 28 a b = fullV 37 a b := by
  unfold aluV
  rw [show halfOf 28 = false from rfl, show pOf 28 = 37 from rfl, if_neg (by decide)]
theorem aluV_31 (a b : Nat) : aluV 31 a b = ((wordN 35 (a % 4294967296) (b % 4294967296) : Nat) : Int) := by
  unfold aluV
  rw [show halfOf 31 = true from rfl, show pOf 31 = 35 from rfl, if_pos rfl]
theorem ldStep_alu (x : Nat) (o : Nat) (rd a b n : Int) (ho : o ≠ 1) : ldStep x ⟨(o : Int), rd, a, b, n⟩ = (aluV o (if a = 0 then 0 else x) (wrN n)).toNat := by
  unfold ldStep
  rw [if_neg (show ¬ ((o : Int) = 1) by omega), Int.toNat_natCast]
theorem alu22 (a : Nat) (z : Int) : ((aluV 22 a (wrN z)).toNat : Int) = ((a : Int) + z) % 18446744073709551616 := by
  rw [aluV_22, fullV_35, wrN_cast, IntKind.wrap_u64]
  omega
theorem alu28 (a : Nat) (s : Nat) (hs : s < 64) : ((aluV 28 a (wrN (s : Int))).toNat : Int) = (a : Int) * 2 ^ s % 18446744073709551616 := by
  have e : wrN (s : Int) % 64 = s := by unfold wrN; omega
  rw [aluV_28, fullV_37, e, IntKind.wrap_u64]
  generalize (a : Int) * 2 ^ s = q
  omega
theorem alu31 (a : Nat) (z n : Int) (h1 : -2147483648 ≤ n) (h2 : n < 2147483648) (h : ((a : Int) + z) % 4294967296 = n % 4294967296) : ((aluV 31 a (wrN z)).toNat : Int) = n % 18446744073709551616 := by
  rw [aluV_31, wordN_35]
  have e : fullN 35 (a % 4294967296) (wrN z % 4294967296) % 4294967296 = (n % 4294967296).toNat := by
    unfold fullN
    rw [fullV_35, IntKind.wrap_u64]
    have := wrN_cast z
    omega
  rw [e]
  unfold sx32
  split <;> omega
theorem ctz_dvd {h : Int} {z : Nat} (h0 : h ≠ 0) (h1 : -2251799813685248 ≤ h) (h2 : h < 2251799813685248) (hz : tzI h = z) : h / 2 ^ z * 2 ^ z = h ∧ z ≤ 51 := by
  obtain ⟨x, hx⟩ : ∃ x : Nat, h % 18446744073709551616 = (x : Int) := ⟨(h % 18446744073709551616).toNat, by omega⟩
  have hxl : x < 18446744073709551616 := by omega
  have hx0 : x ≠ 0 := by omega
  have hz1 : Lib.ctz 64 x = z := by rw [← hz]; unfold tzI; rw [hx]; rfl
  have hz64 : z < 64 := by rw [← hz1]; exact ctz_lt x hxl hx0
  obtain ⟨m, hm, _⟩ := Lib.ctzFrom_spec 64 x (by omega) hxl
  have e : Lib.ctzFrom 64 x = z := by rw [← hz1]; unfold Lib.ctz; rw [if_neg hx0]
  rw [e] at hm
  have e2 : (18446744073709551616 : Int) = 2 ^ z * 2 ^ (64 - z) := by rw [← Int.pow_add, show z + (64 - z) = 64 by omega]; rfl
  have hc := Int.emod_add_mul_ediv h 18446744073709551616
  rw [hx] at hc
  have hdv : (2 : Int) ^ z ∣ h := by
    rw [← hc, e2, hm]
    refine Int.dvd_add ?_ ?_
    · rw [Int.natCast_mul, Int.natCast_pow]; exact Int.dvd_mul_right _ _
    · rw [Int.mul_assoc]; exact Int.dvd_mul_right _ _
  refine ⟨Int.ediv_mul_cancel hdv, ?_⟩
  apply Nat.le_of_not_lt
  intro hlt
  obtain ⟨c, hcc⟩ := hdv
  have hp : (2 : Int) ^ 52 ≤ 2 ^ z := by
    have := Nat.pow_le_pow_right (show 0 < 2 by decide) (show 52 ≤ z by omega)
    have h3 : ((2 ^ 52 : Nat) : Int) ≤ ((2 ^ z : Nat) : Int) := Int.ofNat_le.2 this
    rwa [Int.natCast_pow, Int.natCast_pow] at h3
  have hc0 : c ≠ 0 := by rintro rfl; simp at hcc; exact h0 hcc
  have h52 : (2 : Int) ^ 52 = 4503599627370496 := by decide
  rw [h52] at hp
  rcases Int.lt_or_gt_of_ne hc0 with hcn | hcp
  · have := Int.mul_le_mul_of_nonneg_left (show c ≤ -1 by omega) (show (0 : Int) ≤ 2 ^ z by omega)
    rw [Int.mul_neg, Int.mul_one] at this
    omega
  · have := Int.mul_le_mul_of_nonneg_left (show 1 ≤ c by omega) (show (0 : Int) ≤ 2 ^ z by omega)
    rw [Int.mul_one] at this
    omega
theorem ldRun_app (x : Nat) (l : List In) (i : In) : ldRun x (l ++ [i]) = ldStep (ldRun x l) i := by simp [ldRun]
theorem cast_eq {a b : Nat} (h : (a : Int) = (b : Int)) : a = b := by omega
theorem step22 (x : Nat) (rd n a : Int) : ((ldStep x ⟨22, rd, a, 0, n⟩ : Nat) : Int) = ((if a = 0 then 0 else (x : Int)) + n) % 18446744073709551616 := by
  rw [show (22 : Int) = ((22 : Nat) : Int) from rfl, ldStep_alu x 22 rd a 0 n (by decide), alu22]
  split <;> rfl
/-- THE NUMBER IS LOADED. -/
theorem ld_ok (k : Nat) : ∀ (rd n : Int) (x : Nat), rd ≠ 0 → inB k n → -9223372036854775808 ≤ n ∧ n < 9223372036854775808 → ((ldRun x (liM (k + 1) rd n) : Nat) : Int) = n % 18446744073709551616 := by
  have hA : ∀ (k : Nat) (rd n : Int) (x : Nat), -2048 ≤ n → n ≤ 2047 → ((ldRun x (liM (k + 1) rd n) : Nat) : Int) = n % 18446744073709551616 := fun k rd n x h1 h2 => by
    rw [liM, if_pos ⟨h1, h2⟩]
    show ((ldStep x ⟨22, rd, 0, 0, n⟩ : Nat) : Int) = _
    rw [step22, if_pos rfl, Int.zero_add]
  have hB : ∀ (k : Nat) (rd n : Int) (x : Nat), rd ≠ 0 → ¬ (-2048 ≤ n ∧ n ≤ 2047) → -2147483648 ≤ n → n < 2147483648 → ((ldRun x (liM (k + 1) rd n) : Nat) : Int) = n % 18446744073709551616 := fun k rd n x hrd h0 h1 h2 => by
    rw [liM, if_neg h0, if_pos ⟨h1, h2⟩]
    obtain ⟨g, hg⟩ : ∃ g, g = (if (n + 2048) / 4096 = 524288 then (-524288 : Int) else (n + 2048) / 4096) := ⟨_, rfl⟩
    rw [← hg]
    have hg2 : (g * 4096 + lowI n - n) % 4294967296 = 0 := by rw [hg]; unfold lowI; split <;> omega
    have hx1 : ((wrN g * 4096 % 18446744073709551616 : Nat) : Int) = g * 4096 % 18446744073709551616 := by have := wrN_cast g; omega
    by_cases hl : lowI n = 0
    · rw [if_neg (by simpa using hl)]
      show ((wrN g * 4096 % 18446744073709551616 : Nat) : Int) = _
      rw [hx1]
      have hg3 : g * 4096 = n := by rw [hg]; unfold lowI at hl; split <;> omega
      rw [hg3]
    · rw [if_pos (by simpa using hl)]
      show ((ldStep (wrN g * 4096 % 18446744073709551616) ⟨((31 : Nat) : Int), rd, rd, 0, lowI n⟩ : Nat) : Int) = _
      rw [ldStep_alu _ 31 rd rd 0 _ (by decide), if_neg hrd]
      refine alu31 _ _ n h1 h2 ?_
      rw [hx1]
      omega
  induction k with
  | zero =>
    intro rd n x hrd hb hr
    have h : -2147483648 ≤ n ∧ n < 2147483648 := by simpa [inB] using hb
    by_cases h0 : -2048 ≤ n ∧ n ≤ 2047
    · exact hA 0 rd n x h0.1 h0.2
    · exact hB 0 rd n x hrd h0 h.1 h.2
  | succ k ih =>
    intro rd n x hrd hb hr
    by_cases h0 : -2048 ≤ n ∧ n ≤ 2047
    · exact hA _ rd n x h0.1 h0.2
    · by_cases h : -2147483648 ≤ n ∧ n < 2147483648
      · exact hB _ rd n x hrd h0 h.1 h.2
      · obtain ⟨r1, r2, r3⟩ := hi_rng hr h
        obtain ⟨z, hz⟩ : ∃ z, tzI (hiI n) = z := ⟨_, rfl⟩
        have hD : (1 : Int) ≤ 2 ^ z := by have := Int.pow_pos (n := (2 : Int)) (m := z) (by decide); omega
        have hd := div_in (lo := -2251799813685248) (hi := 2251799813685248) (2 ^ z) hD (by decide) (by decide) r1 r2
        have hi := ih rd (hiI n / 2 ^ z) x hrd (hi_in hr hb h _ hD) ⟨by omega, by omega⟩
        obtain ⟨q1, q2⟩ := ctz_dvd r3 r1 r2 hz
        rw [liM, if_neg h0, if_neg h, hz]
        generalize hL : liM (k + 1) rd (hiI n / 2 ^ z) = L at *
        have hs : ((ldStep (ldRun x L) ⟨28, rd, rd, 0, 12 + (z : Int)⟩ : Nat) : Int) = (n - lowI n) % 18446744073709551616 := by
          rw [show (28 : Int) = ((28 : Nat) : Int) from rfl, ldStep_alu _ 28 rd rd 0 _ (by decide), if_neg hrd, show (12 + (z : Int)) = ((12 + z : Nat) : Int) by omega, alu28 _ _ (by omega), hi, Int.mul_emod, Int.emod_emod_of_dvd _ (Int.dvd_refl _), ← Int.mul_emod, Int.pow_add, Int.mul_comm (2 ^ 12), ← Int.mul_assoc, q1]
          have e12 : (2 : Int) ^ 12 = 4096 := by decide
          rw [e12]
          unfold hiI wrap64 lowI
          omega
        by_cases hl : lowI n = 0
        · rw [if_neg (by simpa using hl), ldRun_app, hs, hl, Int.sub_zero]
        · rw [if_pos (by simpa using hl), show L ++ [⟨28, rd, rd, 0, 12 + (z : Int)⟩, ⟨22, rd, rd, 0, lowI n⟩] = (L ++ [⟨28, rd, rd, 0, 12 + (z : Int)⟩]) ++ [⟨22, rd, rd, 0, lowI n⟩] by simp, ldRun_app, ldRun_app, step22, if_neg hrd, hs]
          omega
def insR (i : In) : Bool := rightI i.op i.rd i.a i.b i.n
theorem reg_of {rd : Int} (h : Go.Proofs.rdOK rd = true) : regB rd true = true := h
/-- EACH IS RIGHT. -/
theorem ld_right (k : Nat) : ∀ (rd n : Int), Go.Proofs.rdOK rd = true → -9223372036854775808 ≤ n ∧ n < 9223372036854775808 → ∀ i ∈ liM k rd n, insR i = true := by
  have r22 : ∀ (rd a n : Int), Go.Proofs.rdOK rd = true → Go.Proofs.rdOK a = true → -2048 ≤ n → n ≤ 2047 → insR ⟨22, rd, a, 0, n⟩ = true := fun rd a n h1 h2 h3 h4 => by
    unfold insR rightI
    show (((((true && regB rd true) && regB a true) && regB 0 false) && (decide (-2048 ≤ n) && decide (n ≤ 2047))) = true)
    rw [reg_of h1, reg_of h2]
    simp [regB, h3, h4]
  have r31 : ∀ (rd a n : Int), Go.Proofs.rdOK rd = true → Go.Proofs.rdOK a = true → -2048 ≤ n → n ≤ 2047 → insR ⟨31, rd, a, 0, n⟩ = true := fun rd a n h1 h2 h3 h4 => by
    unfold insR rightI
    show (((((true && regB rd true) && regB a true) && regB 0 false) && (decide (-2048 ≤ n) && decide (n ≤ 2047))) = true)
    rw [reg_of h1, reg_of h2]
    simp [regB, h3, h4]
  have r28 : ∀ (rd a n : Int), Go.Proofs.rdOK rd = true → Go.Proofs.rdOK a = true → 0 ≤ n → n ≤ 63 → insR ⟨28, rd, a, 0, n⟩ = true := fun rd a n h1 h2 h3 h4 => by
    unfold insR rightI
    show (((((true && regB rd true) && regB a true) && regB 0 false) && (decide (0 ≤ n) && decide (n ≤ 63))) = true)
    rw [reg_of h1, reg_of h2]
    simp [regB, h3, h4]
  have r1 : ∀ (rd n : Int), Go.Proofs.rdOK rd = true → -524288 ≤ n → n ≤ 524287 → insR ⟨1, rd, 0, 0, n⟩ = true := fun rd n h1 h3 h4 => by
    unfold insR rightI
    show (((((true && regB rd true) && regB 0 false) && regB 0 false) && (decide (-524288 ≤ n) && decide (n ≤ 524287))) = true)
    rw [reg_of h1]
    simp [regB, h3, h4]
  have r0 : Go.Proofs.rdOK 0 = true := by decide
  have hlow : ∀ n : Int, -2048 ≤ lowI n ∧ lowI n ≤ 2047 := fun n => by unfold lowI; omega
  induction k with
  | zero => intro rd n _ _ i hi; simp [liM] at hi
  | succ k ih =>
    intro rd n hrd hr i hi
    rw [liM] at hi
    by_cases h0 : -2048 ≤ n ∧ n ≤ 2047
    · rw [if_pos h0] at hi
      obtain rfl := List.mem_singleton.1 hi
      exact r22 rd 0 n hrd r0 h0.1 h0.2
    · rw [if_neg h0] at hi
      have opt : ∀ (o : Int), (∀ m, -2048 ≤ m → m ≤ 2047 → insR ⟨o, rd, rd, 0, m⟩ = true) → ∀ j ∈ (if lowI n ≠ 0 then [(⟨o, rd, rd, 0, lowI n⟩ : In)] else []), insR j = true := fun o ho j hj => by
        split at hj
        · obtain rfl := List.mem_singleton.1 hj
          exact ho _ (hlow n).1 (hlow n).2
        · cases hj
      by_cases h : -2147483648 ≤ n ∧ n < 2147483648
      · rw [if_pos h] at hi
        rcases List.mem_cons.1 hi with rfl | hi
        · refine r1 rd _ hrd ?_ ?_ <;> split <;> omega
        · exact opt 31 (fun m a b => r31 rd rd m hrd hrd a b) i hi
      · rw [if_neg h] at hi
        obtain ⟨q1, q2, q3⟩ := hi_rng hr h
        have hz := (ctz_dvd q3 q1 q2 rfl).2
        have hD : (1 : Int) ≤ 2 ^ tzI (hiI n) := by have := Int.pow_pos (n := (2 : Int)) (m := tzI (hiI n)) (by decide); omega
        have hd := div_in (lo := -2251799813685248) (hi := 2251799813685248) (2 ^ tzI (hiI n)) hD (by decide) (by decide) q1 q2
        rcases List.mem_append.1 hi with hi | hi
        · exact ih rd _ hrd ⟨by omega, by omega⟩ i hi
        · rcases List.mem_cons.1 hi with rfl | hi
          · exact r28 rd rd _ hrd hrd (by omega) (by omega)
          · exact opt 22 (fun m a b => r22 rd rd m hrd hrd a b) i hi
end Go.Pat

/- patinalaw05.AsmLoads: the walk; what is left is small's contract. -/
namespace Go.Pat
open Go Go.RowKit
theorem ld_ops (k : Nat) : ∀ (rd n : Int), ∀ i ∈ liM k rd n, i.op = 1 ∨ i.op = 22 ∨ i.op = 28 ∨ i.op = 31 := by
  induction k with
  | zero => intro rd n i hi; simp [liM] at hi
  | succ k ih =>
    intro rd n i hi
    rw [liM] at hi
    split at hi
    · obtain rfl := List.mem_singleton.1 hi; exact .inr (.inl rfl)
    · have opt : ∀ (o : Int), (o = 22 ∨ o = 31) → i ∈ (if lowI n ≠ 0 then [(⟨o, rd, rd, 0, lowI n⟩ : In)] else []) → i.op = 1 ∨ i.op = 22 ∨ i.op = 28 ∨ i.op = 31 := fun o ho hj => by
        split at hj
        · obtain rfl := List.mem_singleton.1 hj
          rcases ho with rfl | rfl
          · exact .inr (.inl rfl)
          · exact .inr (.inr (.inr rfl))
        · cases hj
      split at hi
      · rcases List.mem_cons.1 hi with rfl | hi
        · exact .inl rfl
        · exact opt 31 (.inr rfl) hi
      · rcases List.mem_append.1 hi with hi | hi
        · exact ih _ _ i hi
        · rcases List.mem_cons.1 hi with rfl | hi
          · exact .inr (.inr (.inl rfl))
          · exact opt 22 (.inl rfl) hi
theorem ldRun_take (l : List In) (k : Nat) (hk : k < l.length) (x : Nat) : ldRun x (l.take (k + 1)) = ldStep (ldRun x (l.take k)) l[k] := by
  rw [List.take_succ_eq_append_getElem hk, ldRun_app]
theorem ldStep_lt (x : Nat) (i : In) (hx : x < 18446744073709551616) (ho : i.op = 1 ∨ i.op = 22 ∨ i.op = 28 ∨ i.op = 31) : ldStep x i < 18446744073709551616 := by
  unfold ldStep
  by_cases h1 : i.op = 1
  · rw [if_pos h1]; omega
  · rw [if_neg h1]
    exact (aluV_nat i.op.toNat _ _ (by omega) (by omega) (by split <;> omega) (wrN_lt i.n)).2
end Go.Pat
namespace Go.Proofs
open Go Go.RowKit Go.Pat
theorem int_congr {k : IntKind} {a b : Int} (h : a = b) : Value.int k a = Value.int k b := by rw [h]
theorem LiRes.bad {rd n : Int} {w w' : World} {e : Ending} (H : LiRes rd n w e w') (h : rdOK rd = false) : ∃ v, e = .returned (.tuple #[v, .int .i64 1]) ∧ OwnI w' w.heap.size v [] ∧ Below w.heap.size w w' := by
  unfold LiRes at H
  rw [h] at H
  exact H
theorem LiRes.good {rd n : Int} {w w' : World} {e : Ending} (H : LiRes rd n w e w') (h : rdOK rd = true) : ∃ v, e = .returned (.tuple #[v, .int .i64 0]) ∧ OwnI w' w.heap.size v (liL rd n) ∧ Below w.heap.size w w' := by
  unfold LiRes at H
  rw [h] at H
  exact H
def TrueTo (w : World) (e : Ending) (w' : World) : Prop := e = .returned (.bool true) ∧ Below w.heap.size w w'
set_option maxRecDepth 20000 in
set_option maxHeartbeats 4000000 in
theorem AsmLoads_any (H5 : ∀ W : World, RvRows W → TzTab W → Calls Tryd.prog 13 #[] W (TrueTo W)) (rd n : Int) (w : World) (hR : RvRows w) (hT : TzTab w) (hr : -9223372036854775808 ≤ n ∧ n < 9223372036854775808) :
    Calls Tryd.prog 3 #[.int .i64 rd, .int .i64 n] w (TrueTo w) := by
  have H5h := Lib.hid H5
  clear H5
  cases hrd : rdOK rd with
  | false =>
    go_enter Tryd.func3, Tryd.ntmps3
    go_wp2_with fail
    refine Calls.mono (aLi_any rd n _ hT hr) ?_
    intro e w1 hF1
    obtain ⟨v1, rfl, ho1, hB1⟩ := hF1.bad hrd
    clear hF1
    go_wp2_with fail
    refine Calls.mono (r5Li_any rd n _ hr) ?_
    intro e w2 hF2
    obtain ⟨v2, rfl, ho2, hB2⟩ := hF2.bad hrd
    clear hF2
    have ho12 := ho1.below hB2
    have hBw2 := hB1.trans (hB2.mono hB1.size)
    obtain ⟨A1, c1, rfl, hc1⟩ := ho12.form
    obtain ⟨A2, c2, rfl, hc2⟩ := ho2.form
    have HB := Lib.hid hBw2
    clear ho1 ho2 ho12 hB1 hB2 hBw2 hrd
    go_wp2_with fail
    refine Calls.mono (pInstrs_any w2 A1 A2 0 c1 c2 [] hc1 hc2 rfl (by decide)) ?_
    rintro e w3 ⟨rfl, hB3⟩
    have hB := HB.out.trans (hB3.mono HB.out.size)
    have hR3 := hR.below hB
    have hT3 := hT.below hB
    go_wp2_with fail
    refine Calls.mono (H5h.out _ hR3 hT3) ?_
    rintro e w4 ⟨rfl, hB4⟩
    go_wp2
    go_ret
    exact ⟨rfl, hB.trans (hB4.mono hB.size)⟩
  | true =>
    go_enter Tryd.func3, Tryd.ntmps3
    go_wp2_with fail
    refine Calls.mono (aLi_any rd n _ hT hr) ?_
    intro e w1 hF1
    obtain ⟨v1, rfl, ho1, hB1⟩ := hF1.good hrd
    clear hF1
    go_wp2_with fail
    refine Calls.mono (r5Li_any rd n _ hr) ?_
    intro e w2 hF2
    obtain ⟨v2, rfl, ho2, hB2⟩ := hF2.good hrd
    clear hF2
    have ho12 := ho1.below hB2
    have hBw2 := hB1.trans (hB2.mono hB1.size)
    have hll : (liL rd n).length ≤ 12 := liM_len 6 rd n
    obtain ⟨L, hL⟩ : ∃ L, L = liL rd n := ⟨_, rfl⟩
    rw [← hL] at ho12 ho2 hll
    obtain ⟨A1, c1, rfl, hc1⟩ := ho12.form
    obtain ⟨A2, c2, rfl, hc2⟩ := ho2.form
    have HL := Lib.hid (And.intro hL (And.intro hrd hr))
    have HB := Lib.hid hBw2
    clear ho1 ho2 ho12 hB1 hB2 hBw2 hrd hL hr
    go_wp2_with fail
    refine Calls.mono (pInstrs_any w2 A1 A2 L.length c1 c2 L hc1 hc2 rfl (by omega)) ?_
    rintro e w3 ⟨rfl, hB3⟩
    have hB := HB.out.trans (hB3.mono HB.out.size)
    have hR3 := hR.below hB
    have hT3 := hT.below hB
    have hc3 := hc1.below hB3
    have hle3 := hB3.size
    have HC3 := Lib.hid hc3
    clear hc1 hc2 hc3
    by_cases h0 : rd = 0
    · have d0 : (rd == 0) = true := by simpa using h0
      clear h0
      go_wp2_with fail
      refine Calls.mono (H5h.out _ hR3 hT3) ?_
      rintro e w4 ⟨rfl, hB4⟩
      go_wp2
      go_ret
      exact ⟨rfl, hB.trans (hB4.mono hB.size)⟩
    · have d0 : (rd == 0) = false := by simpa using h0
      have H0 := Lib.hid h0
      clear h0
      go_wp2_with fail
      go_loopw [43, 9] (fun i x wr => ∃ k : Nat, k ≤ L.length ∧ i = .int .i64 k ∧ x = .int .u64 ((ldRun 0 (L.take k) : Nat) : Int) ∧ ldRun 0 (L.take k) < 18446744073709551616 ∧ Below w3.heap.size w3 wr) (fun i _ _ => L.length - (intOf i).toNat)
      case atStart => exact ⟨0, Nat.zero_le _, rfl, rfl, by show (0 : Nat) < _; decide, Below.refl _ _⟩
      case round =>
        obtain ⟨k, hk, rfl, rfl, hx, hBr⟩ := hrel
        by_cases hlt : k < L.length
        · have t1 : decide ((k : Int) < (L.length : Int)) = true := decide_eq_true (by omega)
          obtain ⟨b, o, rfl, hb, x0, x1, x2, x3, x4⟩ := ins_at ((HC3.out.more hle3).below hBr) k hlt
          have hops : L[k].op = 1 ∨ L[k].op = 22 ∨ L[k].op = 28 ∨ L[k].op = 31 := ld_ops 6 rd n _ (by have := HL.out.1; unfold liL at this; rw [← this]; exact List.getElem_mem hlt)
          have hrt : insR L[k] = true := ld_right 6 rd n HL.out.2.1 HL.out.2.2 _ (by have := HL.out.1; unfold liL at this; rw [← this]; exact List.getElem_mem hlt)
          have hst := ldRun_take L k hlt 0
          have hsl := ldStep_lt _ L[k] hx hops
          rw [← hst] at hsl
          unfold ldStep at hst
          unfold insR at hrt
          generalize ldRun 0 (L.take k) = x at *
          obtain ⟨x', hx'⟩ : ∃ x', ldRun 0 (L.take (k + 1)) = x' := ⟨_, rfl⟩
          rw [hx'] at hst hsl
          have HE := Lib.hid hx'
          clear hx'
          generalize L[k].op = p0 at *
          generalize L[k].rd = p1 at *
          generalize L[k].a = p2 at *
          generalize L[k].b = p3 at *
          generalize L[k].n = p4 at *
          obtain ⟨y, hy⟩ : ∃ y, wrN p4 = y := ⟨_, rfl⟩
          have hyu : IntKind.u64.wrap p4 = (y : Int) := by rw [← hy, wrN_is]
          have hyl : y < 18446744073709551616 := by rw [← hy]; exact wrN_lt p4
          rw [hy] at hst
          have HR1 := Lib.hid (fun W => r1Right_any p0 p1 p2 p3 p4 W)
          rw [hrt] at HR1
          have HX := Lib.hid (And.intro hst (And.intro hsl hops))
          clear hst hsl hops hrt hy
          have hB9 := (hBr.alloc hBr.size (.cells #[.int .i64 p0, .int .i64 p1, .int .i64 p2, .int .i64 p3, .int .i64 p4] 32))
          go_wp2_with fail
          refine Calls.mono (HR1.out _) ?_
          rintro e w7 ⟨rfl, hB7⟩
          have hb7 : w7.heap[wr.heap.size]? = some (.cells #[.int .i64 p0, .int .i64 p1, .int .i64 p2, .int .i64 p3, .int .i64 p4] 32 (0, 0)) := (hB7.block _ (by rw [World.size_alloc]; omega)).trans (heap_alloc_new wr _)
          have z0 : w7.cell? ⟨wr.heap.size, 0, none⟩ = some (.int .i64 p0) := (obj_cell hb7 0).trans rfl
          have z2 : w7.cell? ⟨wr.heap.size, 2, none⟩ = some (.int .i64 p2) := (obj_cell hb7 2).trans rfl
          have z4 : w7.cell? ⟨wr.heap.size, 4, none⟩ = some (.int .i64 p4) := (obj_cell hb7 4).trans rfl
          have hB8 := hB9.trans (hB7.mono hB9.size)
          clear hb7 x0 x1 x2 x3 x4 hB7 hB9
          by_cases hp1 : p0 = 1
          · subst hp1
            have hv := HX.out.1
            rw [if_pos rfl] at hv
            have HV := Lib.hid hv
            clear hv
            go_wp2_with fail
            go_roundw
            case rel => exact ⟨k + 1, by omega, by go_num, by rw [HE.out, HV.out]; first | rfl | exact int_congr (by omega) | exact int_congr (by rw [IntKind.wrap_u64]; omega), by rw [HE.out]; exact HX.out.2.1, hB8⟩
            case measure => simp [intOf]; omega
          · obtain ⟨o9, rfl⟩ : ∃ o9 : Nat, p0 = o9 := ⟨p0.toNat, by have := HX.out.2.2; omega⟩
            have ho9 : 22 ≤ o9 ∧ o9 ≤ 62 := by have := HX.out.2.2; omega
            have hv := HX.out.1
            rw [if_neg hp1, Int.toNat_natCast] at hv
            have tp : ((o9 : Int) == 1) = false := by simpa using hp1
            have hxx : x' < 18446744073709551616 := HX.out.2.1
            have HE2 := Lib.hid (show ldRun 0 (L.take (k + 1)) < 18446744073709551616 by rw [HE.out]; exact hxx)
            clear hp1 hxx
            by_cases hp2 : p2 = 0
            · subst hp2
              rw [if_pos rfl] at hv
              have HAl := Lib.hid (fun W => (rAlu3_in o9 0 y ho9.1 ho9.2 (by decide) hyl W : Calls Tryd.prog 15 #[.int .i64 (o9 : Int), .int .u64 0, .int .u64 (y : Int)] W fun e w' => e = .returned (.tuple #[.int .u64 (aluV o9 0 y), .int .i64 0]) ∧ Below W.heap.size W w'))
              rw [(aluV_nat o9 0 y ho9.1 ho9.2 (by decide) hyl).1, ← hv] at HAl
              clear hv ho9
              go_wp2_with fail
              refine Calls.mono (HAl.out _) ?_
              rintro e w10 ⟨rfl, hB10⟩
              go_wp2_with fail
              go_roundw
              case rel => exact ⟨k + 1, by omega, by go_num, by rw [HE.out], HE2.out, hB8.trans (hB10.mono hB8.size)⟩
              case measure => simp [intOf]; omega
            · have tq : (p2 == 0) = false := by simpa using hp2
              rw [if_neg hp2] at hv
              have HAl := Lib.hid (fun W => rAlu3_in o9 x y ho9.1 ho9.2 hx hyl W)
              rw [(aluV_nat o9 x y ho9.1 ho9.2 hx hyl).1, ← hv] at HAl
              clear hv ho9 hp2
              go_wp2_with fail
              refine Calls.mono (HAl.out _) ?_
              rintro e w10 ⟨rfl, hB10⟩
              go_wp2_with fail
              go_roundw
              case rel => exact ⟨k + 1, by omega, by go_num, by rw [HE.out], HE2.out, hB8.trans (hB10.mono hB8.size)⟩
              case measure => simp [intOf]; omega
        · have t1 : decide ((k : Int) < (L.length : Int)) = false := decide_eq_false (by omega)
          obtain rfl : k = L.length := by omega
          have hv : ((ldRun 0 (L.take L.length) : Nat) : Int) = n % 18446744073709551616 := by
            rw [List.take_length, HL.out.1]
            have h5 : (256 : Int) ^ 5 = 1099511627776 := by decide
            exact ld_ok 5 rd n 0 H0.out ⟨by have := HL.out.2.2; omega, by have := HL.out.2.2; omega⟩ HL.out.2.2
          have t2 : (((ldRun 0 (L.take L.length) : Nat) : Int) == IntKind.u64.wrap n) = true := by rw [hv, IntKind.wrap_u64, beq_self_eq_true]
          have hB5 := hB.trans (hBr.mono hB.size)
          have hR5 := hR.below hB5
          have hT5 := hT.below hB5
          clear hv
          generalize ldRun 0 (L.take L.length) = x at *
          go_wp2_with fail
          refine Calls.mono (H5h.out _ hR5 hT5) ?_
          rintro e w6 ⟨rfl, hB6⟩
          go_wp2
          go_ret
          exact ⟨rfl, hB5.trans (hB6.mono hB5.size)⟩
end Go.Proofs

/- patinalaw05.small: a jump over a word. -/
namespace Go.Pat
open Go Go.RowKit Go.Proofs
def nmA : ByteArray := ⟨#[97]⟩
def nmB : ByteArray := ⟨#[98]⟩
def t5a : List It := [⟨5, nmA, 0, 0, 0, 0, 0⟩, ⟨8, no, 0, 0, 0, 0, 0⟩, ⟨1, nmA, 0, 0, 0, 0, 0⟩]
def t5b : List It := [⟨1, nmB, 0, 0, 0, 0, 0⟩, ⟨5, nmA, 0, 0, 0, 0, 0⟩]
def b5a : List UInt8 := [111, 0, 192, 0, 0, 0, 0, 0, 0, 0, 0, 0]
theorem fin5 (S : List Int) (h : Fin t5a [] 4096 8192 S) : S = [4, 8, 0] := by
  cases hb : begM t5a [] 4096 8192 with
  | inl x =>
    have h0 : (Sum.elim (fun _ => false) (fun _ => true) (begM t5a [] 4096 8192)) = true := by kernel_rfl
    rw [hb] at h0
    cases h0
  | inr F =>
    have h1 := h F hb
    have h2 : Final t5a [] 4096 8192 F [4, 8, 0] := by
      refine ⟨⟨0, by kernel_rfl⟩, ?_⟩
      have h3 : nextM t5a [] 4096 8192 (Sum.elim (fun _ _ => none) id (begM t5a [] 4096 8192)) [4, 8, 0] = [4, 8, 0] := by kernel_rfl
      rw [hb] at h3
      exact h3
    exact h1.one h2
theorem asm5a : asmR t5a [] 4096 8192 [4, 8, 0] = .inr (b5a, [], [(nmA, 4108)]) := by kernel_rfl
theorem asm5b (S : List Int) : asmR t5b [] 0 0 S = .inl (50, 1) := by
  have h : begM t5b [] 0 0 = .inl (50, 1) := by kernel_rfl
  simp only [asmR, h]
end Go.Pat
namespace Go.Proofs
open Go Go.RowKit Go.Pat
theorem Cs.of_lit (w : World) (l : List Value) (t : TypeId) : Cs (w.alloc (.cells l.toArray t)).heap.size (w.alloc (.cells l.toArray t)) (some ⟨w.heap.size, 0, none⟩) l := fun j hj => by
  refine ⟨w.heap.size, 0, rfl, by rw [World.size_alloc]; omega, ?_⟩
  rw [Nat.zero_add, cell_of_row _ _ j _ _ (0, 0) (heap_alloc_new w _)]
  simp [hj]
theorem bs_at0 {w : World} {base : Nat} {v : Value} {l : List UInt8} {c : UInt8} (h : OwnB w base v (c :: l)) : ∃ b o k, v = .slice (some ⟨b, o, none⟩) (l.length + 1) k ∧ b < w.heap.size ∧ w.cell? ⟨b, o, none⟩ = some (.int .u8 (c.toNat : Int)) := by
  obtain ⟨A, k, rfl, hb⟩ := h.form
  obtain ⟨b, o, rfl, hlt, hc⟩ := hb 0 (by rw [bcells_length]; simp)
  exact ⟨b, o, k, rfl, hlt, by rw [Nat.add_zero] at hc; exact hc⟩
set_option maxRecDepth 20000 in
set_option maxHeartbeats 8000000 in
theorem small5_any (w : World) (hR : RvRows w) (hT : TzTab w) : Calls Tryd.prog 13 #[] w (TrueTo w) := by
  have hB1 := form1 w (.cells (tcells t5a).toArray 61)
  have HA1 := Lib.hid (show Calls Tryd.prog 17 #[.slice (some ⟨w.heap.size, 0, none⟩) 3 3, .slice none 0 0, .int .u64 4096, .int .u64 8192] (w.alloc (.cells #[.int .i64 5, .string ⟨#[97]⟩, .int .i64 0, .int .i64 0, .int .i64 0, .int .i64 0, .int .i64 0, .int .i64 8, .string ⟨#[]⟩, .int .i64 0, .int .i64 0, .int .i64 0, .int .i64 0, .int .i64 0, .int .i64 1, .string ⟨#[97]⟩, .int .i64 0, .int .i64 0, .int .i64 0, .int .i64 0, .int .i64 0] 61)) (AsmTo (w.alloc (.cells #[.int .i64 5, .string ⟨#[97]⟩, .int .i64 0, .int .i64 0, .int .i64 0, .int .i64 0, .int .i64 0, .int .i64 8, .string ⟨#[]⟩, .int .i64 0, .int .i64 0, .int .i64 0, .int .i64 0, .int .i64 0, .int .i64 1, .string ⟨#[97]⟩, .int .i64 0, .int .i64 0, .int .i64 0, .int .i64 0, .int .i64 0] 61)) t5a [] 4096 8192) from
    aAsm_any (w.alloc (.cells (tcells t5a).toArray 61)) (some ⟨w.heap.size, 0, none⟩) 3 t5a none 0 [] 4096 8192 (Cs.of_lit w (tcells t5a) 61) (fun j hj => absurd hj (by simp [tcells])) (by decide) (by decide) (hT.below hB1) (hR.below hB1) (by decide) (by decide) (by decide) (by decide))
  have HA2 := Lib.hid (show ∀ (W : World) (n : Nat), W.heap.size = n → TzTab W → RvRows W → Calls Tryd.prog 17 #[.slice (some ⟨n, 0, none⟩) 2 2, .slice none 0 0, .int .u64 0, .int .u64 0] (W.alloc (.cells #[.int .i64 1, .string ⟨#[98]⟩, .int .i64 0, .int .i64 0, .int .i64 0, .int .i64 0, .int .i64 0, .int .i64 5, .string ⟨#[97]⟩, .int .i64 0, .int .i64 0, .int .i64 0, .int .i64 0, .int .i64 0] 61)) (AsmTo (W.alloc (.cells #[.int .i64 1, .string ⟨#[98]⟩, .int .i64 0, .int .i64 0, .int .i64 0, .int .i64 0, .int .i64 0, .int .i64 5, .string ⟨#[97]⟩, .int .i64 0, .int .i64 0, .int .i64 0, .int .i64 0, .int .i64 0] 61)) t5b [] 0 0) from fun W n hn hT hR => by
    subst hn
    exact aAsm_any (W.alloc (.cells (tcells t5b).toArray 61)) (some ⟨W.heap.size, 0, none⟩) 2 t5b none 0 [] 0 0 (Cs.of_lit W (tcells t5b) 61) (fun j hj => absurd hj (by simp [tcells])) (by decide) (by decide) (hT.below (form1 W _)) (hR.below (form1 W _)) (by decide) (by decide) (by decide) (by decide))
  have HT := Lib.hid (And.intro hT hR)
  clear hT hR hB1
  go_enter Tryd.func13, Tryd.ntmps13
  go_wp2_with fail
  with_reducible refine Calls.mono HA1.out ?_
  rintro e w2 ⟨hB2, S, hS, hm⟩
  obtain rfl := fin5 S hS
  simp only [asm5a] at hm
  obtain ⟨vt, vd, vl, rfl, o1, o2, o3⟩ := hm
  obtain ⟨b1, p1, k1, rfl, l1, x1⟩ := bs_at0 o1
  obtain ⟨A3, k3, rfl, h3⟩ := o3.form
  obtain ⟨b3, p3, rfl, l3, x3, x4⟩ := lab_at h3 0 (by simp)
  obtain ⟨A4, k4, rfl, -⟩ := o2.form
  have hB02 : Below w.heap.size w w2 := (form1 w _).trans (hB2.mono (form1 w _).size)
  have x1' : w2.cell? ⟨b1, p1, none⟩ = some (.int .u8 111) := x1
  have x4' : w2.cell? ⟨b3, p3 + 1, none⟩ = some (.int .u64 4108) := by simpa using x4
  clear x1 x3 x4 o1 o2 o3 h3 hB2 hS
  have hT2 : TzTab w2 := HT.out.1.below hB02
  have hR2 : RvRows w2 := HT.out.2.below hB02
  generalize hC : (Obj.cells #[.slice (some ⟨b1, p1, none⟩) 12 k1, .slice A4 0 k4, .slice (some ⟨b3, p3, none⟩) 1 k3] 45) = C at *
  have h32 := form1 w2 C
  have hc3 := heap_alloc_new w2 C
  have HW3 := Lib.hid (And.intro (hT2.below h32) (And.intro (hR2.below h32) (And.intro h32 hc3)))
  have HB02 := Lib.hid hB02
  have HL5 := Lib.hid (show ∀ W : World, TzTab W → Calls Tryd.prog 10 #[.int .i64 5, .int .i64 2048] W (fun e w' => ∃ A k, e = .returned (.tuple #[.slice A 2 k, .int .i64 0]) ∧ Below W.heap.size W w') from fun W hW => (aLi_any 5 2048 W hW (by omega)).mono fun e w' ⟨v, he, ho, hb⟩ => by
    have h1 : (if rdOK 5 then liL 5 2048 else []).length = 2 := by kernel_rfl
    obtain ⟨A, k, rfl, -⟩ := ho.form
    rw [h1] at he
    exact ⟨A, k, he, hb⟩)
  subst hC
  clear hT2 hR2 h32 hc3 hB02
  go_wp2_with fail
  with_reducible refine Calls.mono (HA2.out _ _ (World.size_alloc _ _) HW3.out.1 HW3.out.2.1) ?_
  rintro e w5 ⟨hB5, S2, -, hm⟩
  simp only [asm5b] at hm
  subst hm
  have h25 := HW3.out.2.2.1.trans (((form1 _ _).trans (hB5.mono (form1 _ _).size)).mono HW3.out.2.2.1.size)
  have hC5 := (hB5.block w2.heap.size (by rw [World.size_alloc, World.size_alloc]; omega)).trans ((Below.heap_alloc _ _ w2.heap.size (by rw [World.size_alloc]; omega)).trans HW3.out.2.2.2)
  have hl5 := lt_of_block hC5
  have H5 := Lib.hid (And.intro h25 hC5)
  clear hB5 h25 hC5
  go_wp2_with fail
  with_reducible refine Calls.mono (HL5.out _ ((HT.out.1.below (HB02.out.trans (H5.out.1.mono HB02.out.size))).below (form1 w5 _))) ?_
  rintro e w7 ⟨A7, k7, rfl, hB7⟩
  have h27 := H5.out.1.trans (((form1 w5 _).trans (hB7.mono (form1 w5 _).size)).mono H5.out.1.size)
  have hC7 := (hB7.block w2.heap.size (by rw [World.size_alloc]; omega)).trans ((Below.heap_alloc _ _ w2.heap.size hl5).trans H5.out.2)
  have g0 := (obj_cell hC7 0).trans rfl
  have g2 := (obj_cell hC7 2).trans rfl
  have y1 := (h27.cell (p := ⟨b1, p1, none⟩) l1).trans x1'
  have y3 := (h27.cell (p := ⟨b3, p3 + 1, none⟩) l3).trans x4'
  have HF := Lib.hid (HB02.out.trans (h27.mono HB02.out.size))
  clear hC7 hB7 h27
  go_wp2_with fail
  go_ret
  exact ⟨rfl, HF.out⟩
end Go.Proofs

/- What the tied condition gives: the operations' rows. -/
namespace Go.Proofs.YtemngapfnkokiaaDoor
open Go Go.ChangeShapes Go.WideShapes Go.ChangeAt Go.RowKit Go.Pat Go.Joins Go.WideMaps Go.WideElems
theorem gRows : Tryd.prog.globalNamed "patina/rv.rows" = some 1 := by kernel_rfl
theorem tRows : (Tryd.prog.globals[1]?).map (·.type) = some 196 := by kernel_rfl
def rowD (op : Nat) : DataW Unit := .agg [.lit (.int .u8 ((rvRow op).1 : Int)), .lit (.int .u32 ((rvRow op).2.1 : Int)), .lit (.int .u32 ((rvRow op).2.2.1 : Int)), .lit (.int .u32 ((rvRow op).2.2.2 : Int))]
theorem rows_data : (Rows.laid_patina_rv_rows : DataW Unit) = .agg ((List.range 66).map rowD) := by kernel_rfl
theorem cell_of_take {l : List Value} {p j : Nat} {a : Value} (hj : j < 4) (h : (((l.drop p).take 4).drop j).take 1 = [a]) : l[p + j]? = some a := by
  have h1 := congrArg (fun x => x[0]?) h
  simp only [List.getElem?_take, List.getElem?_drop, List.getElem?_cons_zero] at h1
  rw [if_pos (by omega), if_pos (by omega), Nat.add_zero] at h1
  exact h1
theorem c_u8 : Tryd.prog.cellsOf 5 = 1 := by kernel_rfl
theorem c_u32 : Tryd.prog.cellsOf 89 = 1 := by kernel_rfl
theorem c_row : Tryd.prog.cellsOf 184 = 4 := by kernel_rfl
theorem rows_trod {W : World} {cs : Array Value} {x : DataW Unit × List MemPlace} {enc : TypeId × Value → Unit} {base : Nat} {spare : Nat → Bool} {held : Bool} {fuel : Nat} (hv : W.var? Tryd.prog "patina/rv.rows" = some cs)
    (hd : DataW.trod enc Tryd.prog W base spare held fuel 196 cs.toList = some x) (hx : x.1 = Rows.laid_patina_rv_rows) : RvRows W := by
  rw [rows_data] at hx
  obtain ⟨xs, m1, rfl, rfl, hlen, hn, hel⟩ := DataW.trod_array Tryd.underlying196 hd
  simp only [DataW.agg.injEq] at hx
  have key : ∀ op, op < 66 → W.rangeAt 1 (op * 4) [.int .u8 ((rvRow op).1 : Int), .int .u32 ((rvRow op).2.1 : Int), .int .u32 ((rvRow op).2.2.1 : Int), .int .u32 ((rvRow op).2.2.2 : Int)] := by
    intro op hop
    have h0 := hel op hop
    have h1 : xs[op]?.map (·.1) = some (rowD op) := by rw [← List.getElem?_map, hx, List.getElem?_map, List.getElem?_range hop]; rfl
    obtain ⟨y, hy, hy2⟩ := Option.map_eq_some_iff.1 h1
    rw [hy, c_row] at h0
    obtain ⟨y0, y1, y2, y3, n, rfl, _, q0, q1, q2, q3⟩ := trod_struct4 Tryd.underlying184 h0
    simp only [rowD, DataW.agg.injEq, List.cons.injEq, and_true] at hy2
    obtain ⟨k0, e0, rfl, _⟩ := DataW.trod_int Tryd.underlying5 q0
    obtain ⟨k1, e1, rfl, _⟩ := DataW.trod_int Tryd.underlying89 q1
    obtain ⟨k2, e2, rfl, _⟩ := DataW.trod_int Tryd.underlying89 q2
    obtain ⟨k3, e3, rfl, _⟩ := DataW.trod_int Tryd.underlying89 q3
    obtain ⟨z0, z1, z2, z3⟩ := hy2
    have w0 := Lit.int.inj (DataW.lit.inj z0)
    have w1 := Lit.int.inj (DataW.lit.inj z1)
    have w2 := Lit.int.inj (DataW.lit.inj z2)
    have w3 := Lit.int.inj (DataW.lit.inj z3)
    simp only [c_u8, c_u32] at e0 e1 e2 e3
    have d0 := cell_of_take (p := op * 4) (j := 0) (by omega) e0
    have d1 := cell_of_take (p := op * 4) (j := 1) (by omega) e1
    have d2 := cell_of_take (p := op * 4) (j := 2) (by omega) e2
    have d3 := cell_of_take (p := op * 4) (j := 3) (by omega) e3
    rw [w0.2] at d0
    rw [w1.2] at d1
    rw [w2.2] at d2
    rw [w3.2] at d3
    intro j v hj
    have hc := World.var?_cell gRows hv (op * 4 + j)
    rw [← Array.getElem?_toList] at hc
    match j, hj with
    | 0, hj => rw [hc, d0]; exact hj
    | 1, hj => rw [hc, d1]; exact hj
    | 2, hj => rw [hc, d2]; exact hj
    | 3, hj => rw [hc, d3]; exact hj
  exact ⟨World.block_lt_of_cell? W ⟨1, _, none⟩ (key 0 (by omega) 0 _ rfl), key⟩
theorem rvRows_laid {W : World} (h : laidMetH Tryd.prog [("patina/rv.rows", Rows.laid_patina_rv_rows)] W) : RvRows W := by
  rw [MakeChecks.laidMetH_plain _ _ _ (by kernel_rfl)] at h
  obtain ⟨ps, ⟨g1, t1, cs1, f1, p1, q1, hg1, ht1, hv1, hd1, _, _⟩, _, _⟩ := h
  obtain rfl := Option.some.inj (gRows.symm.trans hg1)
  obtain rfl := Option.some.inj (tRows.symm.trans ht1)
  exact rows_trod hv1 hd1 rfl
end Go.Proofs.YtemngapfnkokiaaDoor

/- What the tied condition gives: the table of math/bits, and the operations' rows. -/
namespace Go.Proofs.YtemngapfnkokiaaDoor
open Go Go.ChangeShapes Go.WideShapes Go.ChangeAt Go.RowKit Go.Pat Go.Joins Go.WideMaps Go.WideElems
theorem gTz : Tryd.prog.globalNamed "math/bits.deBruijn64tab" = some 0 := by kernel_rfl
theorem tTz : (Tryd.prog.globals[0]?).map (·.type) = some 174 := by kernel_rfl
def tzD (j : Nat) : DataW Unit := .lit (.int .u8 ((Lib.deBruijn64tab.getD j 0 : Nat) : Int))
theorem tz_data : (Rows.laid_math_bits_deBruijn64tab : DataW Unit) = .agg ((List.range 64).map tzD) := by kernel_rfl
theorem tz_trod {W : World} {cs : Array Value} {x : DataW Unit × List MemPlace} {enc : TypeId × Value → Unit} {base : Nat} {spare : Nat → Bool} {held : Bool} {fuel : Nat} (hv : W.var? Tryd.prog "math/bits.deBruijn64tab" = some cs)
    (hd : DataW.trod enc Tryd.prog W base spare held fuel 174 cs.toList = some x) (hx : x.1 = Rows.laid_math_bits_deBruijn64tab) : TzTab W := by
  rw [tz_data] at hx
  obtain ⟨xs, m1, rfl, rfl, hlen, hn, hel⟩ := DataW.trod_array Tryd.underlying174 hd
  simp only [DataW.agg.injEq] at hx
  have key : ∀ j, j < 64 → W.cell? ⟨0, j, none⟩ = some (.int .u8 ((Lib.deBruijn64tab.getD j 0 : Nat) : Int)) := by
    intro j hj
    have h0 := hel j hj
    have h1 : xs[j]?.map (·.1) = some (tzD j) := by rw [← List.getElem?_map, hx, List.getElem?_map, List.getElem?_range hj]; rfl
    obtain ⟨y, hy, hy2⟩ := Option.map_eq_some_iff.1 h1
    rw [hy, c_u8] at h0
    obtain ⟨k0, e0, rfl, _⟩ := DataW.trod_int Tryd.underlying5 h0
    simp only [tzD, DataW.lit.injEq, Lit.int.injEq, true_and] at hy2
    have d0 : cs.toList[j]? = some (.int .u8 k0) := by
      have h2 := congrArg (fun x => x[0]?) e0
      simp only [List.getElem?_take, List.getElem?_drop, List.getElem?_cons_zero] at h2
      simpa using h2
    rw [hy2] at d0
    have hc := World.var?_cell gTz hv j
    rw [← Array.getElem?_toList] at hc
    rw [hc, d0]
  exact ⟨World.block_lt_of_cell? W ⟨0, _, none⟩ (key 0 (by omega)), key⟩
theorem tabs_laid {W : World} (h : laidMetH Tryd.prog [("math/bits.deBruijn64tab", Rows.laid_math_bits_deBruijn64tab), ("patina/rv.rows", Rows.laid_patina_rv_rows)] W) : TzTab W ∧ RvRows W := by
  rw [MakeChecks.laidMetH_plain _ _ _ (by kernel_rfl)] at h
  obtain ⟨ps, ⟨g1, t1, cs1, f1, p1, q1, hg1, ht1, hv1, hd1, ⟨g2, t2, cs2, f2, p2, q2, hg2, ht2, hv2, hd2, _, _⟩, _⟩, _, _⟩ := h
  obtain rfl := Option.some.inj (gTz.symm.trans hg1)
  obtain rfl := Option.some.inj (tTz.symm.trans ht1)
  obtain rfl := Option.some.inj (gRows.symm.trans hg2)
  obtain rfl := Option.some.inj (tRows.symm.trans ht2)
  exact ⟨tz_trod hv1 hd1 rfl, rows_trod hv2 hd2 rfl⟩
end Go.Proofs.YtemngapfnkokiaaDoor
