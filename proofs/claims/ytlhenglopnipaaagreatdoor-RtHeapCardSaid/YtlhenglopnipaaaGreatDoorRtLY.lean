/- The instructions that load a number make it, and each is right. Plain: no program in sight. -/
import Derived.Test.YtlhenglopnipaaaGreatDoorLiA
import Derived.Test.YtlhenglopnipaaaGreatDoorAlus
import Derived.Test.YtlhenglopnipaaaGreatDoorRvP
import Derived.Test.YtlhenglopnipaaaGreatDoorForms
import Derived.Test.YtlhenglopnipaaaGreatDoorRtMO
import Derived.Test.YtlhenglopnipaaaGreatDoorAsmW
import Derived.Test.YtlhenglopnipaaaGreatDoorRtFJ
import Derived.Test.YtlhenglopnipaaaGreatDoorRtAE
import Derived.Test.YtlhenglopnipaaaGreatDoorEncB
import Derived.Test.YtlhenglopnipaaaGreatDoorLoadA
import Derived.Test.YtlhenglopnipaaaGreatDoorAsmPQ
namespace Go.Pat
open Go Go.RowKit
def ldStep (x : Nat) (i : In) : Nat := if i.op = 1 then wrN i.n * 4096 % 18446744073709551616 else (aluV i.op.toNat (if i.a = 0 then 0 else x) (wrN i.n)).toNat
def ldRun (x : Nat) (l : List In) : Nat := l.foldl ldStep x
theorem wrN_cast (z : Int) : ((wrN z : Nat) : Int) = z % 18446744073709551616 := by unfold wrN; omega
theorem aluV_22 (a b : Nat) : aluV 22 a b = fullV 35 a b := by
  unfold aluV
  rw [show halfOf 22 = false from rfl, show pOf 22 = 35 from rfl, if_neg (by decide)]
theorem aluV_28 (a b : Nat) : aluV 28 a b = fullV 37 a b := by
  unfold aluV
  rw [show halfOf 28 = false from rfl, show pOf 28 = 37 from rfl, if_neg (by decide)]
theorem aluV_31 (a b : Nat) : aluV 31 a b = ((wordN 35 (a % 4294967296) (b % 4294967296) : Nat) : Int) := by
  unfold aluV
  rw [show halfOf 31 = true from rfl, show pOf 31 = 35 from rfl, if_pos rfl]
theorem ldStep_alu (x : Nat) (o : Nat) (rd a b n : Int) (ho : o ≠ 1) : ldStep x ⟨(o : Int), rd, a, b, n⟩ = (aluV o (if a = 0 then 0 else x) (wrN n)).toNat := by
  unfold ldStep
  rw [if_neg (show ¬ ((o : Int) = 1) by omega), Int.toNat_natCast]
theorem alu22 (a : Nat) (z : Int) : ((aluV 22 a (wrN z)).toNat : Int) = ((a : Int) + z) % 18446744073709551616 := by
  rw [aluV_22, fullV_35, wrN_cast, IntKind.wrap_u64]
  omega
theorem alu28 (a : Nat) (s : Nat) (hs : s < 64) : ((aluV 28 a (wrN (s : Int))).toNat : Int) = (a : Int) * 2 ^ s % 18446744073709551616 := by
  have e : wrN (s : Int) % 64 = s := by unfold wrN; omega
  rw [aluV_28, fullV_37, e, IntKind.wrap_u64]
  generalize (a : Int) * 2 ^ s = q
  omega
theorem alu31 (a : Nat) (z n : Int) (h1 : -2147483648 ≤ n) (h2 : n < 2147483648) (h : ((a : Int) + z) % 4294967296 = n % 4294967296) : ((aluV 31 a (wrN z)).toNat : Int) = n % 18446744073709551616 := by
  rw [aluV_31, wordN_35]
  have e : fullN 35 (a % 4294967296) (wrN z % 4294967296) % 4294967296 = (n % 4294967296).toNat := by
    unfold fullN
    rw [fullV_35, IntKind.wrap_u64]
    have := wrN_cast z
    omega
  rw [e]
  unfold sx32
  split <;> omega
theorem ctz_dvd {h : Int} {z : Nat} (h0 : h ≠ 0) (h1 : -2251799813685248 ≤ h) (h2 : h < 2251799813685248) (hz : tzI h = z) : h / 2 ^ z * 2 ^ z = h ∧ z ≤ 51 := by
  obtain ⟨x, hx⟩ : ∃ x : Nat, h % 18446744073709551616 = (x : Int) := ⟨(h % 18446744073709551616).toNat, by omega⟩
  have hxl : x < 18446744073709551616 := by omega
  have hx0 : x ≠ 0 := by omega
  have hz1 : Lib.ctz 64 x = z := by rw [← hz]; unfold tzI; rw [hx]; rfl
  have hz64 : z < 64 := by rw [← hz1]; exact ctz_lt x hxl hx0
  obtain ⟨m, hm, _⟩ := Lib.ctzFrom_spec 64 x (by omega) hxl
  have e : Lib.ctzFrom 64 x = z := by rw [← hz1]; unfold Lib.ctz; rw [if_neg hx0]
  rw [e] at hm
  have e2 : (18446744073709551616 : Int) = 2 ^ z * 2 ^ (64 - z) := by rw [← Int.pow_add, show z + (64 - z) = 64 by omega]; rfl
  have hc := Int.emod_add_mul_ediv h 18446744073709551616
  rw [hx] at hc
  have hdv : (2 : Int) ^ z ∣ h := by
    rw [← hc, e2, hm]
    refine Int.dvd_add ?_ ?_
    · rw [Int.natCast_mul, Int.natCast_pow]; exact Int.dvd_mul_right _ _
    · rw [Int.mul_assoc]; exact Int.dvd_mul_right _ _
  refine ⟨Int.ediv_mul_cancel hdv, ?_⟩
  apply Nat.le_of_not_lt
  intro hlt
  obtain ⟨c, hcc⟩ := hdv
  have hp : (2 : Int) ^ 52 ≤ 2 ^ z := by
    have := Nat.pow_le_pow_right (show 0 < 2 by decide) (show 52 ≤ z by omega)
    have h3 : ((2 ^ 52 : Nat) : Int) ≤ ((2 ^ z : Nat) : Int) := Int.ofNat_le.2 this
    rwa [Int.natCast_pow, Int.natCast_pow] at h3
  have hc0 : c ≠ 0 := by rintro rfl; simp at hcc; exact h0 hcc
  have h52 : (2 : Int) ^ 52 = 4503599627370496 := by decide
  rw [h52] at hp
  rcases Int.lt_or_gt_of_ne hc0 with hcn | hcp
  · have := Int.mul_le_mul_of_nonneg_left (show c ≤ -1 by omega) (show (0 : Int) ≤ 2 ^ z by omega)
    rw [Int.mul_neg, Int.mul_one] at this
    omega
  · have := Int.mul_le_mul_of_nonneg_left (show 1 ≤ c by omega) (show (0 : Int) ≤ 2 ^ z by omega)
    rw [Int.mul_one] at this
    omega
theorem ldRun_app (x : Nat) (l : List In) (i : In) : ldRun x (l ++ [i]) = ldStep (ldRun x l) i := by simp [ldRun]
theorem step22 (x : Nat) (rd n a : Int) : ((ldStep x ⟨22, rd, a, 0, n⟩ : Nat) : Int) = ((if a = 0 then 0 else (x : Int)) + n) % 18446744073709551616 := by
  rw [show (22 : Int) = ((22 : Nat) : Int) from rfl, ldStep_alu x 22 rd a 0 n (by decide), alu22]
  split <;> rfl
/-- THE NUMBER IS LOADED. -/
theorem ld_ok (k : Nat) : ∀ (rd n : Int) (x : Nat), rd ≠ 0 → inB k n → -9223372036854775808 ≤ n ∧ n < 9223372036854775808 → ((ldRun x (liM (k + 1) rd n) : Nat) : Int) = n % 18446744073709551616 := by
  have hA : ∀ (k : Nat) (rd n : Int) (x : Nat), -2048 ≤ n → n ≤ 2047 → ((ldRun x (liM (k + 1) rd n) : Nat) : Int) = n % 18446744073709551616 := fun k rd n x h1 h2 => by
    rw [liM, if_pos ⟨h1, h2⟩]
    show ((ldStep x ⟨22, rd, 0, 0, n⟩ : Nat) : Int) = _
    rw [step22, if_pos rfl, Int.zero_add]
  have hB : ∀ (k : Nat) (rd n : Int) (x : Nat), rd ≠ 0 → ¬ (-2048 ≤ n ∧ n ≤ 2047) → -2147483648 ≤ n → n < 2147483648 → ((ldRun x (liM (k + 1) rd n) : Nat) : Int) = n % 18446744073709551616 := fun k rd n x hrd h0 h1 h2 => by
    rw [liM, if_neg h0, if_pos ⟨h1, h2⟩]
    obtain ⟨g, hg⟩ : ∃ g, g = (if (n + 2048) / 4096 = 524288 then (-524288 : Int) else (n + 2048) / 4096) := ⟨_, rfl⟩
    rw [← hg]
    have hg2 : (g * 4096 + lowI n - n) % 4294967296 = 0 := by rw [hg]; unfold lowI; split <;> omega
    have hx1 : ((wrN g * 4096 % 18446744073709551616 : Nat) : Int) = g * 4096 % 18446744073709551616 := by have := wrN_cast g; omega
    by_cases hl : lowI n = 0
    · rw [if_neg (by simpa using hl)]
      show ((wrN g * 4096 % 18446744073709551616 : Nat) : Int) = _
      rw [hx1]
      have hg3 : g * 4096 = n := by rw [hg]; unfold lowI at hl; split <;> omega
      rw [hg3]
    · rw [if_pos (by simpa using hl)]
      show ((ldStep (wrN g * 4096 % 18446744073709551616) ⟨((31 : Nat) : Int), rd, rd, 0, lowI n⟩ : Nat) : Int) = _
      rw [ldStep_alu _ 31 rd rd 0 _ (by decide), if_neg hrd]
      refine alu31 _ _ n h1 h2 ?_
      rw [hx1]
      omega
  induction k with
  | zero =>
    intro rd n x hrd hb hr
    have h : -2147483648 ≤ n ∧ n < 2147483648 := by simpa [inB] using hb
    by_cases h0 : -2048 ≤ n ∧ n ≤ 2047
    · exact hA 0 rd n x h0.1 h0.2
    · exact hB 0 rd n x hrd h0 h.1 h.2
  | succ k ih =>
    intro rd n x hrd hb hr
    by_cases h0 : -2048 ≤ n ∧ n ≤ 2047
    · exact hA _ rd n x h0.1 h0.2
    · by_cases h : -2147483648 ≤ n ∧ n < 2147483648
      · exact hB _ rd n x hrd h0 h.1 h.2
      · obtain ⟨r1, r2, r3⟩ := hi_rng hr h
        obtain ⟨z, hz⟩ : ∃ z, tzI (hiI n) = z := ⟨_, rfl⟩
        have hD : (1 : Int) ≤ 2 ^ z := by have := Int.pow_pos (n := (2 : Int)) (m := z) (by decide); omega
        have hd := div_in (lo := -2251799813685248) (hi := 2251799813685248) (2 ^ z) hD (by decide) (by decide) r1 r2
        have hi := ih rd (hiI n / 2 ^ z) x hrd (hi_in hr hb h _ hD) ⟨by omega, by omega⟩
        obtain ⟨q1, q2⟩ := ctz_dvd r3 r1 r2 hz
        rw [liM, if_neg h0, if_neg h, hz]
        generalize hL : liM (k + 1) rd (hiI n / 2 ^ z) = L at *
        have hs : ((ldStep (ldRun x L) ⟨28, rd, rd, 0, 12 + (z : Int)⟩ : Nat) : Int) = (n - lowI n) % 18446744073709551616 := by
          rw [show (28 : Int) = ((28 : Nat) : Int) from rfl, ldStep_alu _ 28 rd rd 0 _ (by decide), if_neg hrd, show (12 + (z : Int)) = ((12 + z : Nat) : Int) by omega, alu28 _ _ (by omega), hi, Int.mul_emod, Int.emod_emod_of_dvd _ (Int.dvd_refl _), ← Int.mul_emod, Int.pow_add, Int.mul_comm (2 ^ 12), ← Int.mul_assoc, q1]
          have e12 : (2 : Int) ^ 12 = 4096 := by decide
          rw [e12]
          unfold hiI wrap64 lowI
          omega
        by_cases hl : lowI n = 0
        · rw [if_neg (by simpa using hl), ldRun_app, hs, hl, Int.sub_zero]
        · rw [if_pos (by simpa using hl), show L ++ [⟨28, rd, rd, 0, 12 + (z : Int)⟩, ⟨22, rd, rd, 0, lowI n⟩] = (L ++ [⟨28, rd, rd, 0, 12 + (z : Int)⟩]) ++ [⟨22, rd, rd, 0, lowI n⟩] by simp, ldRun_app, ldRun_app, step22, if_neg hrd, hs]
          omega
def insR (i : In) : Bool := rightI i.op i.rd i.a i.b i.n
theorem reg_of {rd : Int} (h : Go.Proofs.rdOK rd = true) : regB rd true = true := h
/-- EACH IS RIGHT. -/
theorem ld_right (k : Nat) : ∀ (rd n : Int), Go.Proofs.rdOK rd = true → -9223372036854775808 ≤ n ∧ n < 9223372036854775808 → ∀ i ∈ liM k rd n, insR i = true := by
  have r22 : ∀ (rd a n : Int), Go.Proofs.rdOK rd = true → Go.Proofs.rdOK a = true → -2048 ≤ n → n ≤ 2047 → insR ⟨22, rd, a, 0, n⟩ = true := fun rd a n h1 h2 h3 h4 => by
    unfold insR rightI
    show (((((true && regB rd true) && regB a true) && regB 0 false) && (decide (-2048 ≤ n) && decide (n ≤ 2047))) = true)
    rw [reg_of h1, reg_of h2]
    simp [regB, h3, h4]
  have r31 : ∀ (rd a n : Int), Go.Proofs.rdOK rd = true → Go.Proofs.rdOK a = true → -2048 ≤ n → n ≤ 2047 → insR ⟨31, rd, a, 0, n⟩ = true := fun rd a n h1 h2 h3 h4 => by
    unfold insR rightI
    show (((((true && regB rd true) && regB a true) && regB 0 false) && (decide (-2048 ≤ n) && decide (n ≤ 2047))) = true)
    rw [reg_of h1, reg_of h2]
    simp [regB, h3, h4]
  have r28 : ∀ (rd a n : Int), Go.Proofs.rdOK rd = true → Go.Proofs.rdOK a = true → 0 ≤ n → n ≤ 63 → insR ⟨28, rd, a, 0, n⟩ = true := fun rd a n h1 h2 h3 h4 => by
    unfold insR rightI
    show (((((true && regB rd true) && regB a true) && regB 0 false) && (decide (0 ≤ n) && decide (n ≤ 63))) = true)
    rw [reg_of h1, reg_of h2]
    simp [regB, h3, h4]
  have r1 : ∀ (rd n : Int), Go.Proofs.rdOK rd = true → -524288 ≤ n → n ≤ 524287 → insR ⟨1, rd, 0, 0, n⟩ = true := fun rd n h1 h3 h4 => by
    unfold insR rightI
    show (((((true && regB rd true) && regB 0 false) && regB 0 false) && (decide (-524288 ≤ n) && decide (n ≤ 524287))) = true)
    rw [reg_of h1]
    simp [regB, h3, h4]
  have r0 : Go.Proofs.rdOK 0 = true := by decide
  have hlow : ∀ n : Int, -2048 ≤ lowI n ∧ lowI n ≤ 2047 := fun n => by unfold lowI; omega
  induction k with
  | zero => intro rd n _ _ i hi; simp [liM] at hi
  | succ k ih =>
    intro rd n hrd hr i hi
    rw [liM] at hi
    by_cases h0 : -2048 ≤ n ∧ n ≤ 2047
    · rw [if_pos h0] at hi
      obtain rfl := List.mem_singleton.1 hi
      exact r22 rd 0 n hrd r0 h0.1 h0.2
    · rw [if_neg h0] at hi
      have opt : ∀ (o : Int), (∀ m, -2048 ≤ m → m ≤ 2047 → insR ⟨o, rd, rd, 0, m⟩ = true) → ∀ j ∈ (if lowI n ≠ 0 then [(⟨o, rd, rd, 0, lowI n⟩ : In)] else []), insR j = true := fun o ho j hj => by
        split at hj
        · obtain rfl := List.mem_singleton.1 hj
          exact ho _ (hlow n).1 (hlow n).2
        · cases hj
      by_cases h : -2147483648 ≤ n ∧ n < 2147483648
      · rw [if_pos h] at hi
        rcases List.mem_cons.1 hi with rfl | hi
        · refine r1 rd _ hrd ?_ ?_ <;> split <;> omega
        · exact opt 31 (fun m a b => r31 rd rd m hrd hrd a b) i hi
      · rw [if_neg h] at hi
        obtain ⟨q1, q2, q3⟩ := hi_rng hr h
        have hz := (ctz_dvd q3 q1 q2 rfl).2
        have hD : (1 : Int) ≤ 2 ^ tzI (hiI n) := by have := Int.pow_pos (n := (2 : Int)) (m := tzI (hiI n)) (by decide); omega
        have hd := div_in (lo := -2251799813685248) (hi := 2251799813685248) (2 ^ tzI (hiI n)) hD (by decide) (by decide) q1 q2
        rcases List.mem_append.1 hi with hi | hi
        · exact ih rd _ hrd ⟨by omega, by omega⟩ i hi
        · rcases List.mem_cons.1 hi with rfl | hi
          · exact r28 rd rd _ hrd hrd (by omega) (by omega)
          · exact opt 22 (fun m a b => r22 rd rd m hrd hrd a b) i hi
end Go.Pat

/- Pieces of a main on the plain machine: numbers are loaded, calls go where they go; what a machine holds stays in range. Plain. -/
namespace Go.Pat
open Go Go.RowKit Go.Proofs
def In.ins (i : In) : Ins := ⟨i.op.toNat, i.rd.toNat, i.a.toNat, i.b.toNat, i.n⟩
structure Good (a : Ab) : Prop where
  small : ∀ x, a.r x < 18446744073709551616
  byte : ∀ x, a.m x < 256
  z : a.r 0 = 0
section
variable {P : List Ins} {inp : List UInt8} {a b : Ab}
theorem Good.put (h : Good a) (k v pc : Nat) (hv : v < 18446744073709551616) : Good { a with pc := pc, r := up a.r k v } := ⟨up_small h.small _ _ hv, h.byte, up_zero h.z _ _⟩
theorem Good.st (h : Good a) (pc A v n : Nat) : Good { a with pc := pc, m := stA a.m A v n } := ⟨h.small, fun x => by
  show stA a.m A v n x < 256
  unfold stA
  split
  · exact Nat.mod_lt _ (by decide)
  · exact h.byte x, h.z⟩
theorem aluA_lt (op x y : Nat) (h1 : 22 ≤ op) (h2 : op ≤ 62) (hx : x < 18446744073709551616) (hy : y < 18446744073709551616) : aluA op x y < 18446744073709551616 := by
  rw [← aluA_is op x y hx hy]
  exact (aluV_nat op x y h1 h2 hx hy).2
theorem good_step (hP : P.length ≤ 4177920) (h : stepA P inp a = some b) (hg : Good a) : Good b := by
  unfold stepA at h
  cases hi : insAt P a.pc with
  | none => rw [hi] at h; cases h
  | some i =>
    rw [hi] at h
    obtain ⟨h1, h2, h3⟩ := insAt_rng hi
    have hl := (List.getElem?_eq_some_iff.1 h3).1
    have s1 := hg.small i.rs1
    have s2 := hg.small i.rs2
    have hw := wrN_lt i.imm
    simp only at h
    unfold exA at h
    by_cases o1 : i.op = 1
    · rw [if_pos o1] at h; obtain rfl := Option.some.inj h; exact hg.put _ _ _ (mod64 _)
    rw [if_neg o1] at h
    by_cases o2 : i.op = 2
    · rw [if_pos o2] at h; obtain rfl := Option.some.inj h; exact hg.put _ _ _ (mod64 _)
    rw [if_neg o2] at h
    by_cases o3 : i.op = 3
    · rw [if_pos o3] at h; obtain rfl := Option.some.inj h; exact hg.put _ _ _ (by omega)
    rw [if_neg o3] at h
    by_cases o4 : i.op = 4
    · rw [if_pos o4] at h; obtain rfl := Option.some.inj h; exact hg.put _ _ _ (by omega)
    rw [if_neg o4] at h
    by_cases o10 : i.op ≤ 10
    · rw [if_pos o10] at h; obtain rfl := Option.some.inj h; exact ⟨hg.small, hg.byte, hg.z⟩
    rw [if_neg o10] at h
    by_cases o14 : i.op = 14
    · rw [if_pos o14] at h
      split at h
      · obtain rfl := Option.some.inj h; exact hg.put _ _ _ (ldA_lt a.m hg.byte _ 8)
      · cases h
    rw [if_neg o14] at h
    by_cases o15 : i.op = 15
    · rw [if_pos o15] at h
      split at h
      · obtain rfl := Option.some.inj h
        exact hg.put _ _ _ (Nat.lt_trans (ldA_lt a.m hg.byte _ 1) (by decide))
      · cases h
    rw [if_neg o15] at h
    by_cases o18 : i.op = 18
    · rw [if_pos o18] at h
      split at h
      · obtain rfl := Option.some.inj h; exact hg.st _ _ _ _
      · cases h
    rw [if_neg o18] at h
    by_cases o21 : i.op = 21
    · rw [if_pos o21] at h
      split at h
      · obtain rfl := Option.some.inj h; exact hg.st _ _ _ _
      · cases h
    rw [if_neg o21] at h
    by_cases o34 : 22 ≤ i.op ∧ i.op ≤ 34
    · rw [if_pos o34] at h; obtain rfl := Option.some.inj h; exact hg.put _ _ _ (aluA_lt _ _ _ o34.1 (by omega) s1 hw)
    rw [if_neg o34] at h
    by_cases o62 : 35 ≤ i.op ∧ i.op ≤ 62
    · rw [if_pos o62] at h; obtain rfl := Option.some.inj h; exact hg.put _ _ _ (aluA_lt _ _ _ (by omega) o62.2 s1 s2)
    rw [if_neg o62] at h
    by_cases o64 : i.op = 64
    · rw [if_pos o64] at h
      split at h
      · split at h
        · obtain rfl := Option.some.inj h
          have hx := UInt8.toNat_lt (inp.getD a.i 0)
          have := hg.put 10 (inp.getD a.i 0).toNat (a.pc + 4) (by omega)
          exact ⟨this.small, this.byte, this.z⟩
        · obtain rfl := Option.some.inj h; exact hg.put _ _ _ (by decide)
      · split at h
        · obtain rfl := Option.some.inj h; exact ⟨hg.small, hg.byte, hg.z⟩
        · cases h
    · rw [if_neg o64] at h; cases h
theorem good_run (hP : P.length ≤ 4177920) : ∀ (n : Nat) {a : Ab}, runA P inp n a = some b → Good a → Good b
  | 0, a, h, hg => by obtain rfl := Option.some.inj h; exact hg
  | n + 1, a, h, hg => by
    rw [runA] at h
    cases hs : stepA P inp a with
    | none => rw [hs] at h; cases h
    | some c => rw [hs] at h; exact good_run hP n h (good_step hP hs hg)
theorem To.good {N : Nat} (h : To P inp N a b) (hP : P.length ≤ 4177920) (hg : Good a) : Good b := by
  obtain ⟨n, _, h⟩ := h
  exact good_run hP n h hg
end
theorem insAt_mid (pre post : List Ins) (c : Ins) (pc : Nat) (h : pc = 65536 + 4 * pre.length) : insAt (pre ++ c :: post) pc = some c := by
  subst h
  unfold insAt
  rw [if_pos ⟨by omega, by omega⟩, show (65536 + 4 * pre.length - 65536) / 4 = pre.length by omega, List.getElem?_append_right (Nat.le_refl _), Nat.sub_self]
  rfl
/-- an instruction as those that load a number. -/
def liShape (rd : Int) (i : In) : Prop := (i.op = 1 ∨ i.op = 22 ∨ i.op = 28 ∨ i.op = 31) ∧ i.rd = rd ∧ (i.a = 0 ∨ i.a = rd) ∧ i.b = 0
theorem liM_shape : ∀ (k : Nat) (rd n : Int), ∀ i ∈ liM k rd n, liShape rd i
  | 0, rd, n, i, h => by cases h
  | k + 1, rd, n, i, h => by
    unfold liM at h
    split at h
    · obtain rfl := List.mem_singleton.1 h
      exact ⟨.inr (.inl rfl), rfl, .inl rfl, rfl⟩
    · split at h
      · rcases List.mem_cons.1 h with rfl | h
        · exact ⟨.inl rfl, rfl, .inl rfl, rfl⟩
        · split at h
          · obtain rfl := List.mem_singleton.1 h
            exact ⟨.inr (.inr (.inr rfl)), rfl, .inr rfl, rfl⟩
          · cases h
      · rcases List.mem_append.1 h with h | h
        · exact liM_shape k rd _ i h
        · rcases List.mem_cons.1 h with rfl | h
          · exact ⟨.inr (.inr (.inl rfl)), rfl, .inr rfl, rfl⟩
          · split at h
            · obtain rfl := List.mem_singleton.1 h
              exact ⟨.inr (.inl rfl), rfl, .inr rfl, rfl⟩
            · cases h
section
variable (inp : List UInt8)
theorem st_li (pre post : List Ins) (rd : Nat) (hrd : rd ≠ 0) (c : In) (hc : liShape rd c) (pc : Nat) (hpc : pc = 65536 + 4 * pre.length) (r m : Nat → Nat) (o : List UInt8) (i : Nat) (h0 : r 0 = 0) (hs : r rd < 18446744073709551616) :
    stepA (pre ++ c.ins :: post) inp ⟨pc, r, m, o, i⟩ = some ⟨pc + 4, up r rd (ldStep (r rd) c), m, o, i⟩ ∧ ldStep (r rd) c < 18446744073709551616 := by
  obtain ⟨hop, e1, e2, e3⟩ := hc
  have hi := insAt_mid pre post c.ins pc hpc
  obtain ⟨op, d, a, b, n⟩ := c
  simp only at hop e1 e2 e3
  subst e1 e3
  have hins : (In.ins ⟨op, (rd : Int), a, 0, n⟩) = ⟨op.toNat, rd, a.toNat, 0, n⟩ := by unfold In.ins; simp
  rw [hins] at hi ⊢
  by_cases o1 : op = 1
  · subst o1
    have ha : ldStep (r rd) ⟨1, (rd : Int), a, 0, n⟩ = wrN n * 4096 % 18446744073709551616 := by unfold ldStep; rw [if_pos rfl]
    rw [ha]
    refine ⟨st_of _ hi ?_, mod64 _⟩
    rfl
  · have hx : (r a.toNat) = if a = 0 then 0 else r rd := by
      rcases e2 with rfl | rfl
      · rw [if_pos rfl]; exact h0
      · rw [if_neg (by omega), Int.toNat_natCast]
    have hxs : (if a = 0 then 0 else r rd) < 18446744073709551616 := by split <;> omega
    obtain ⟨k, rfl, hk⟩ : ∃ k : Nat, op = k ∧ (22 ≤ k ∧ k ≤ 34) := ⟨op.toNat, by omega, by omega⟩
    have ha : ldStep (r rd) ⟨(k : Int), (rd : Int), a, 0, n⟩ = aluA k (r a.toNat) (wrN n) := by
      unfold ldStep
      rw [if_neg o1, Int.toNat_natCast, hx, aluA_is _ _ _ hxs (wrN_lt n)]
    rw [ha]
    refine ⟨st_ai k rd a.toNat n hk (by rw [Int.toNat_natCast] at hi; exact hi) _ rfl, aluA_lt _ _ _ hk.1 (by omega) (by rw [hx]; exact hxs) (wrN_lt n)⟩
theorem straight (rd : Nat) (hrd : rd ≠ 0) (m : Nat → Nat) (o : List UInt8) (i : Nat) : ∀ (C : List In) (pre post : List Ins) (r : Nat → Nat), (∀ c ∈ C, liShape rd c) → r 0 = 0 → r rd < 18446744073709551616 →
    ∃ r', To (pre ++ C.map In.ins ++ post) inp C.length ⟨65536 + 4 * pre.length, r, m, o, i⟩ ⟨65536 + 4 * (pre.length + C.length), r', m, o, i⟩ ∧ r' rd = ldRun (r rd) C ∧ ∀ x, x ≠ rd → r' x = r x
  | [], pre, post, r, _, _, _ => ⟨r, To.refl 0, rfl, fun _ _ => rfl⟩
  | c :: C, pre, post, r, hc, h0, hs => by
    have h1 := st_li inp pre (C.map In.ins ++ post) rd hrd c (hc c (by simp)) _ rfl r m o i h0 hs
    obtain ⟨r', h2, h3, h4⟩ := straight rd hrd m o i C (pre ++ [c.ins]) post (up r rd (ldStep (r rd) c)) (fun x hx => hc x (by simp [hx])) (up_zero h0 _ _) (by rw [up_eq _ _ _ hrd]; exact h1.2)
    refine ⟨r', ?_, ?_, fun x hx => (h4 x hx).trans (up_ne _ _ _ _ hx)⟩
    · have e : pre ++ (c :: C).map In.ins ++ post = pre ++ c.ins :: (C.map In.ins ++ post) := by simp
      have e2 : pre ++ [c.ins] ++ C.map In.ins ++ post = pre ++ c.ins :: (C.map In.ins ++ post) := by simp
      rw [e]
      rw [e2, List.length_append, List.length_singleton] at h2
      have := To.via h1.1 (by rw [show 65536 + 4 * pre.length + 4 = 65536 + 4 * (pre.length + 1) by omega]; exact h2)
      rw [List.length_cons, show pre.length + (C.length + 1) = pre.length + 1 + C.length by omega]
      exact this
    · rw [h3, up_eq _ _ _ hrd]; rfl
/-- a number is loaded. -/
theorem li_to (pre post : List Ins) (rd : Nat) (hrd : rd ≠ 0) (n : Int) (hn : -9223372036854775808 ≤ n ∧ n < 9223372036854775808) (r m : Nat → Nat) (o : List UInt8) (i : Nat) (h0 : r 0 = 0) (hs : r rd < 18446744073709551616) :
    ∃ r', To (pre ++ (liL rd n).map In.ins ++ post) inp 12 ⟨65536 + 4 * pre.length, r, m, o, i⟩ ⟨65536 + 4 * (pre.length + (liL rd n).length), r', m, o, i⟩ ∧ r' rd = wrN n ∧ ∀ x, x ≠ rd → r' x = r x := by
  obtain ⟨r', h1, h2, h3⟩ := straight inp rd hrd m o i (liL rd n) pre post r (liM_shape 6 _ _) h0 hs
  refine ⟨r', h1.mono (liM_len 6 _ _), ?_, h3⟩
  have h4 := ld_ok 5 rd n (r rd) (by omega) ⟨by have : (256 : Int) ^ 5 = 1099511627776 := by decide
                                                omega, by have : (256 : Int) ^ 5 = 1099511627776 := by decide
                                                          omega⟩ hn
  have h5 : ((ldRun (r rd) (liL rd n) : Nat) : Int) = n % 18446744073709551616 := h4
  rw [h2]
  unfold wrN
  omega
end
end Go.Pat

/- What asm.Assemble makes of items whose jumps are short: all sizes are the least ones, and the text is the items' instructions one behind the other (plain). -/
namespace Go.Pat
open Go Go.RowKit Go.Proofs
def zL (l : List It) : List (It × Int) := l.map fun x => (x, leastM x)
theorem zip_least (l : List It) : l.zip (l.map leastM) = zL l := by
  induction l with
  | nil => rfl
  | cons x r ih => simp only [List.map_cons, List.zip_cons_cons, ih, zL]
theorem zL_append (a b : List It) : zL (a ++ b) = zL a ++ zL b := by simp [zL]
/-- the names that are labels. -/
def fold0 : Names → List It → Names
  | F, [] => F
  | F, x :: r => fold0 (if x.k = 1 then F.upd x.s 0 else F) r
def freshB : Names → List It → Bool
  | _, [] => true
  | F, x :: r => if x.k = 1 then (F x.s.data.toList).isNone && freshB (F.upd x.s 0) r else freshB F r
theorem rchk1_ok (tl : Nat) : ∀ (l : List It) (n : Nat) (F : Names), (∀ k (h : k < l.length), itemE l[k] (decide (tl ≤ n + k)) = 0) → freshB F l = true → chk1 tl n l F = .inr (fold0 F l)
  | [], _, _, _, _ => rfl
  | x :: r, n, F, h, hf => by
    have h0 : itemE x (decide (tl ≤ n)) = 0 := h 0 (by simp)
    have hr : ∀ k (hk : k < r.length), itemE r[k] (decide (tl ≤ n + 1 + k)) = 0 := fun k hk => by
      have := h (k + 1) (by simpa using hk)
      rw [List.getElem_cons_succ] at this
      rw [show n + 1 + k = n + (k + 1) by omega]
      exact this
    rw [chk1, if_pos h0]
    unfold freshB at hf
    unfold fold0
    by_cases hk : x.k = 1
    · rw [if_pos hk] at hf ⊢
      rw [if_pos hk]
      simp only [Bool.and_eq_true] at hf
      rw [if_neg (by have := hf.1; revert this; cases F x.s.data.toList <;> simp)]
      exact rchk1_ok tl r (n + 1) _ hr hf.2
    · rw [if_neg hk] at hf ⊢
      rw [if_neg hk]
      exact rchk1_ok tl r (n + 1) _ hr hf
theorem freshB_cons (F : Names) (x : It) (r : List It) : freshB F (x :: r) = if x.k = 1 then (F x.s.data.toList).isNone && freshB (F.upd x.s 0) r else freshB F r := rfl
theorem fold0_cons (F : Names) (x : It) (r : List It) : fold0 F (x :: r) = fold0 (if x.k = 1 then F.upd x.s 0 else F) r := rfl
theorem freshB_app (a b : List It) : ∀ F, freshB F (a ++ b) = (freshB F a && freshB (fold0 F a) b) := by
  induction a with
  | nil => intro F; rfl
  | cons x r ih =>
    intro F
    rw [List.cons_append, freshB_cons, freshB_cons, fold0_cons]
    by_cases hk : x.k = 1
    · rw [if_pos hk, if_pos hk, if_pos hk, ih, Bool.and_assoc]
    · rw [if_neg hk, if_neg hk, if_neg hk, ih]
theorem fold0_app (a b : List It) : ∀ F, fold0 F (a ++ b) = fold0 (fold0 F a) b := by
  induction a with
  | nil => intro F; rfl
  | cons x r ih => intro F; rw [List.cons_append, fold0_cons, fold0_cons]; exact ih _
/-- none of them is a label. -/
def noLab (l : List It) : Prop := ∀ x ∈ l, x.k ≠ 1
theorem fold0_no : ∀ (l : List It) (F : Names), noLab l → fold0 F l = F
  | [], _, _ => rfl
  | x :: r, F, h => by
    unfold fold0
    rw [if_neg (h x (by simp))]
    exact fold0_no r F fun y hy => h y (by simp [hy])
theorem freshB_no : ∀ (l : List It) (F : Names), noLab l → freshB F l = true
  | [], _, _ => rfl
  | x :: r, F, h => by
    unfold freshB
    rw [if_neg (h x (by simp))]
    exact freshB_no r F fun y hy => h y (by simp [hy])
theorem rchk2_ok (F : Names) : ∀ (l : List It) (n : Nat), (∀ x ∈ l, x.s.toList ≠ [] → (F x.s.data.toList).isSome = true) → chk2 F n l = none
  | [], _, _ => rfl
  | x :: r, n, h => by
    rw [chk2, if_neg (fun c => by rw [h x (by simp) c.1] at c; exact absurd c.2 (by decide))]
    exact rchk2_ok F r (n + 1) fun y hy => h y (by simp [hy])
theorem rbegM_good (text data : List It) (at_ dat : Nat) (ha : at_ % 4 = 0 ∧ dat % 8 = 0 ∧ at_ ≤ 1099511627776 ∧ dat ≤ 1099511627776) (hl : text.length + data.length ≤ 1048576)
    (ht : ∀ x ∈ text, itemE x false = 0) (hd : ∀ x ∈ data, itemE x true = 0) (hf : freshB (fun _ => none) (text ++ data) = true)
    (hn : ∀ x ∈ text, x.s.toList ≠ [] → (fold0 (fun _ => none) (text ++ data) x.s.data.toList).isSome = true) : begM text data at_ dat = .inr (fold0 (fun _ => none) (text ++ data)) := by
  have hc : chk1 text.length 0 (text ++ data) (fun _ => none) = .inr (fold0 (fun _ => none) (text ++ data)) := by
    refine rchk1_ok text.length (text ++ data) 0 (fun _ => none) (fun k hk => ?_) hf
    rw [Nat.zero_add]
    by_cases h : k < text.length
    · rw [List.getElem_append_left h, decide_eq_false (by omega)]
      exact ht _ (List.getElem_mem _)
    · rw [List.getElem_append_right (by omega), decide_eq_true (by omega)]
      exact hd _ (List.getElem_mem _)
  unfold begM
  rw [if_neg (by omega), if_neg (by omega), hc]
  simp only [rchk2_ok _ text 0 hn]
def endA : Nat → List (It × Int) → Nat
  | at_, [] => at_
  | at_, x :: r => endA (wrN ((at_ : Int) + x.2)) r
theorem endA_app (a b : List (It × Int)) : ∀ at_, endA at_ (a ++ b) = endA (endA at_ a) b := by
  induction a with
  | nil => intro _; rfl
  | cons x r ih => intro at_; exact ih _
theorem layL_app (a b : List (It × Int)) : ∀ at_ F, layL (a ++ b) at_ F = layL b (endA at_ a) (layL a at_ F) := by
  induction a with
  | nil => intro _ _; rfl
  | cons x r ih => intro at_ F; exact ih _ _
theorem layL_no : ∀ (l : List It) (at_ : Nat) (F : Names), noLab l → layL (zL l) at_ F = F
  | [], _, _, _ => rfl
  | x :: r, at_, F, h => by
    show layL (zL r) _ (if x.k = 1 then _ else F) = F
    rw [if_neg (h x (by simp))]
    exact layL_no r _ F fun y hy => h y (by simp [hy])
/-- what the one knows the other knows. -/
def agree (G F : Names) : Prop := ∀ nm v, G nm = some v → F nm = some v
theorem agree_none (F : Names) : agree (fun _ => none) F := fun _ _ h => by cases h
theorem agree_upd {G F : Names} (h : agree G F) (s : ByteArray) (v : Nat) : agree (G.upd s v) (F.upd s v) := by
  intro nm u hu
  unfold Names.upd at hu ⊢
  split
  · rename_i e; rw [if_pos e] at hu; exact hu
  · rename_i e; rw [if_neg e] at hu; exact h nm u hu
theorem agree_lay : ∀ (l : List (It × Int)) (at_ : Nat) (G F : Names), agree G F → agree (layL l at_ G) (layL l at_ F)
  | [], _, _, _, h => h
  | x :: r, at_, G, F, h => by
    refine agree_lay r _ _ _ ?_
    split
    · exact agree_upd h _ _
    · exact h
theorem dist_agree {G F : Names} (h : agree G F) (s : ByteArray) (hs : (G s.data.toList).isSome = true) (at_ : Nat) : distM F s at_ = distM G s at_ := by
  unfold distM
  cases hg : G s.data.toList with
  | none => rw [hg] at hs; cases hs
  | some v => rw [h _ _ hg]
/-- an item asks for a place. -/
def jumps (x : It) : Prop := x.k = 4 ∨ x.k = 5 ∨ x.k = 6 ∨ x.k = 7
instance (x : It) : Decidable (jumps x) := by unfold jumps; infer_instance
theorem fits_free (x : It) (s d d' : Int) (h : ¬ jumps x) : fitsM x.k s d = fitsM x.k s d' := by
  unfold jumps at h
  have h7 : ¬ x.k = 7 := by omega
  have h56 : ¬ (x.k = 5 ∨ x.k = 6) := by omega
  simp only [fitsM, h7, h56, false_and, if_false]
theorem code_free (x : It) (s d d' : Int) (h : ¬ jumps x) : codeM x s d = codeM x s d' := by
  unfold jumps at h
  have h4 : ¬ x.k = 4 := by omega
  have h7 : ¬ x.k = 7 := by omega
  have h5 : ¬ x.k = 5 := by omega
  have h6 : ¬ x.k = 6 := by omega
  simp only [codeM, h4, h7, h5, h6, or_self, false_and, if_false]
/-- all items are reached with the sizes that they have, and have code. -/
def goodL (F : Names) : Nat → List (It × Int) → Bool
  | _, [] => true
  | at_, x :: r => (fitsM x.1.k x.2 (distM F x.1.s at_) && (codeM x.1 x.2 (distM F x.1.s at_)).2) && (decide (x.1.k ≤ 7) && goodL F (wrN ((at_ : Int) + x.2)) r)
def flatI (F : Names) : Nat → List (It × Int) → List In
  | _, [] => []
  | at_, x :: r => (codeM x.1 x.2 (distM F x.1.s at_)).1 ++ flatI F (wrN ((at_ : Int) + x.2)) r
theorem goodL_app (F : Names) (a b : List (It × Int)) : ∀ at_, goodL F at_ (a ++ b) = (goodL F at_ a && goodL F (endA at_ a) b) := by
  induction a with
  | nil => intro _; rfl
  | cons x r ih => intro at_; rw [List.cons_append, goodL, goodL, ih]; simp only [endA, Bool.and_assoc]
theorem flatI_app (F : Names) (a b : List (It × Int)) : ∀ at_, flatI F at_ (a ++ b) = flatI F at_ a ++ flatI F (endA at_ a) b := by
  induction a with
  | nil => intro _; rfl
  | cons x r ih => intro at_; rw [List.cons_append, flatI, flatI, ih]; simp only [endA, List.append_assoc]
/-- the names that these items ask for are known. -/
def knows (G : Names) (l : List (It × Int)) : Bool := l.all fun x => !decide (jumps x.1) || (G x.1.s.data.toList).isSome
theorem same_item {G F : Names} (h : agree G F) (x : It) (hx : (!decide (jumps x) || (G x.s.data.toList).isSome) = true) (s : Int) (at_ : Nat) : fitsM x.k s (distM F x.s at_) = fitsM x.k s (distM G x.s at_) ∧ codeM x s (distM F x.s at_) = codeM x s (distM G x.s at_) := by
  by_cases hj : jumps x
  · have : (G x.s.data.toList).isSome = true := by simpa [hj] using hx
    rw [dist_agree h _ this]
    exact ⟨rfl, rfl⟩
  · exact ⟨fits_free x s _ _ hj, code_free x s _ _ hj⟩
theorem same_all {G F : Names} (h : agree G F) : ∀ (l : List (It × Int)) (at_ : Nat), knows G l = true → goodL F at_ l = goodL G at_ l ∧ flatI F at_ l = flatI G at_ l
  | [], _, _ => ⟨rfl, rfl⟩
  | x :: r, at_, hk => by
    unfold knows at hk
    rw [List.all_cons, Bool.and_eq_true] at hk
    obtain ⟨e1, e2⟩ := same_item h x.1 hk.1 x.2 at_
    obtain ⟨e3, e4⟩ := same_all h r (wrN ((at_ : Int) + x.2)) hk.2
    rw [goodL, goodL, flatI, flatI, e1, e2, e3, e4]
    exact ⟨rfl, rfl⟩
theorem nexts_good (F : Names) : ∀ (l : List It) (at_ : Nat), goodL F at_ (zL l) = true → nexts F at_ (zL l) = l.map leastM
  | [], _, _ => rfl
  | x :: r, at_, h => by
    unfold zL at h ⊢
    rw [List.map_cons, goodL] at h
    simp only [Bool.and_eq_true] at h
    rw [List.map_cons, nexts, if_pos h.1.1, List.map_cons]
    congr 1
    exact nexts_good F r _ h.2.2
theorem bytM_good (F : Names) : ∀ (l : List (It × Int)) (n at_ : Nat) (out : List UInt8), goodL F at_ l = true → bytM F n at_ l out = .inr (out ++ insB (flatI F at_ l))
  | [], _, _, out, _ => by simp [bytM, flatI, insB]
  | x :: r, n, at_, out, h => by
    rw [goodL] at h
    simp only [Bool.and_eq_true, decide_eq_true_eq] at h
    have hr : rawM x.1 = [] := by unfold rawM; rw [if_neg (by omega), if_neg (by omega)]
    rw [bytM, if_pos h.1.2, bytM_good F r _ _ _ h.2.2, flatI, hr, insB_append, List.append_nil, List.append_assoc]
/-- ASSEMBLE with short jumps. -/
theorem asm_good (text data : List It) (at_ dat : Nat) (F0 : Names) (hb : begM text data at_ dat = .inr F0) (hg : goodL (layL (zL data) dat (layL (zL text) at_ F0)) at_ (zL text) = true) (S : List Int) (hS : Fin text data at_ dat S) :
    asmR text data at_ dat S = .inr (insB (flatI (layL (zL data) dat (layL (zL text) at_ F0)) at_ (zL text)), dataM data, labsM (layL (zL data) dat (layL (zL text) at_ F0)) (text ++ data)) := by
  have e : layM text data (text.map leastM) at_ dat F0 = layL (zL data) dat (layL (zL text) at_ F0) := by unfold layM; rw [zip_least]; rfl
  have h1 : Final text data at_ dat F0 (text.map leastM) := by
    refine ⟨⟨0, rfl⟩, ?_⟩
    unfold nextM
    rw [e, zip_least]
    exact nexts_good _ _ _ hg
  obtain rfl := (hS F0 hb).one h1
  unfold asmR
  rw [hb]
  simp only [e, zip_least, bytM_good _ _ _ _ _ hg, List.nil_append]
end Go.Pat

/- The runtime and a main: their text, data and labels (plain). -/
namespace Go.Pat
open Go Go.RowKit Go.Proofs
/-- the runtime's names and where they lie. -/
def rtN : Names := layL (zL rtData) 16777216 (layL (zL (rtText ++ mainHead)) 65536 (fun _ => none))
def rtI : List In := [⟨1, 2, 0, 0, 8256⟩, ⟨1, 3, 0, 0, 8192⟩, ⟨31, 3, 3, 0, 512⟩, ⟨3, 1, 0, 0, 300⟩, ⟨22, 10, 0, 0, 0⟩, ⟨22, 17, 0, 0, 93⟩, ⟨64, 0, 0, 0, 0⟩, ⟨35, 5, 10, 0, 0⟩, ⟨8, 0, 5, 0, 20⟩, ⟨36, 5, 0, 5, 0⟩, ⟨22, 10, 0, 0, 45⟩, ⟨22, 17, 0, 0, 64⟩, ⟨64, 0, 0, 0, 0⟩, ⟨2, 28, 0, 0, 4080⟩, ⟨22, 28, 28, 0, (-12)⟩, ⟨22, 6, 0, 0, 10⟩, ⟨57, 7, 5, 6, 0⟩, ⟨55, 5, 5, 6, 0⟩, ⟨22, 7, 7, 0, 48⟩, ⟨22, 28, 28, 0, (-1)⟩, ⟨18, 0, 28, 7, 0⟩, ⟨6, 0, 5, 0, (-20)⟩, ⟨2, 29, 0, 0, 4080⟩, ⟨22, 29, 29, 0, (-48)⟩, ⟨15, 10, 28, 0, 0⟩, ⟨22, 17, 0, 0, 64⟩, ⟨64, 0, 0, 0, 0⟩, ⟨22, 28, 28, 0, 1⟩, ⟨6, 0, 28, 29, (-16)⟩, ⟨22, 10, 0, 0, 10⟩, ⟨22, 17, 0, 0, 64⟩, ⟨64, 0, 0, 0, 0⟩, ⟨22, 10, 0, 0, 0⟩, ⟨4, 0, 1, 0, 0⟩, ⟨22, 5, 0, 0, 64⟩, ⟨9, 0, 5, 10, 108⟩, ⟨2, 5, 0, 0, 4080⟩, ⟨22, 5, 5, 0, (-144)⟩, ⟨14, 6, 5, 0, 0⟩, ⟨5, 0, 6, 0, 16⟩, ⟨14, 7, 6, 0, 0⟩, ⟨21, 0, 5, 7, 0⟩, ⟨3, 0, 0, 0, 48⟩, ⟨2, 5, 0, 0, 4080⟩, ⟨22, 5, 5, 0, (-164)⟩, ⟨14, 7, 5, 0, 0⟩, ⟨22, 28, 0, 0, 256⟩, ⟨10, 0, 7, 28, 60⟩, ⟨22, 28, 7, 0, 1⟩, ⟨21, 0, 5, 28, 0⟩, ⟨28, 7, 7, 0, 9⟩, ⟨2, 6, 0, 0, 4080⟩, ⟨22, 6, 6, 0, (-156)⟩, ⟨35, 6, 6, 7, 0⟩, ⟨35, 28, 6, 0, 0⟩, ⟨5, 0, 10, 0, 20⟩, ⟨21, 0, 28, 0, 0⟩, ⟨22, 28, 28, 0, 8⟩, ⟨22, 10, 10, 0, (-1)⟩, ⟨3, 0, 0, 0, (-16)⟩, ⟨35, 10, 6, 0, 0⟩, ⟨4, 0, 1, 0, 0⟩, ⟨22, 10, 0, 0, 110⟩, ⟨22, 17, 0, 0, 93⟩, ⟨64, 0, 0, 0, 0⟩, ⟨2, 5, 0, 0, 4080⟩, ⟨22, 5, 5, 0, (-260)⟩, ⟨14, 6, 5, 0, 0⟩, ⟨21, 0, 10, 6, 0⟩, ⟨21, 0, 5, 10, 0⟩, ⟨22, 10, 0, 0, 0⟩, ⟨4, 0, 1, 0, 0⟩, ⟨22, 17, 0, 0, 63⟩, ⟨64, 0, 0, 0, 0⟩, ⟨4, 0, 1, 0, 0⟩, ⟨22, 10, 0, 0, 111⟩, ⟨22, 17, 0, 0, 93⟩, ⟨64, 0, 0, 0, 0⟩]
def headC : List In := [⟨22, 2, 2, 0, -16⟩, ⟨21, 0, 2, 1, 0⟩]
def tailC : List In := [⟨14, 1, 2, 0, 0⟩, ⟨22, 2, 2, 0, 16⟩, ⟨4, 0, 1, 0, 0⟩]
theorem rtI_is : flatI rtN 65536 (zL (rtText ++ mainHead)) = rtI ++ headC := by decide +kernel
theorem rt_good : goodL rtN 65536 (zL (rtText ++ mainHead)) = true := by decide +kernel
theorem rt_knows : knows rtN (zL (rtText ++ mainHead)) = true := by decide +kernel
theorem rt_end : endA 65536 (zL (rtText ++ mainHead)) = 65856 := by decide +kernel
theorem rtP_is : rtI.map In.ins = rtP := rfl
theorem rt_items : ∀ x ∈ rtText ++ mainHead, itemE x false = 0 := by decide +kernel
theorem rt_datas : ∀ x ∈ rtData, itemE x true = 0 := by decide +kernel
theorem rt_fresh : freshB (fun _ => none) (rtText ++ mainHead) = true := by decide +kernel
theorem rt_fresh2 : freshB (fold0 (fun _ => none) (rtText ++ mainHead)) rtData = true := by decide +kernel
theorem rt_named : ∀ x ∈ rtText ++ mainHead, x.s.toList ≠ [] → (fold0 (fold0 (fun _ => none) (rtText ++ mainHead)) rtData x.s.data.toList).isSome = true := by decide +kernel
end Go.Pat

/- A main's items and their instructions, laid one behind the other. Plain: no program in sight. -/
namespace Go.Pat
open Go Go.RowKit Go.Proofs
def backI (i : In) : Prop := Back i.op i.rd i.a i.b i.n
def rtF0 : Names := fold0 (fold0 (fun _ => none) (rtText ++ mainHead)) rtData
/-- these items lie from there on as these instructions. -/
structure Lay (at_ : Nat) (l : List It) (C : List In) : Prop where
  flat : flatI rtN at_ (zL l) = C
  good : goodL rtN at_ (zL l) = true
  know : knows rtN (zL l) = true
  fin : endA at_ (zL l) = at_ + 4 * C.length
  back : ∀ c ∈ C, backI c
  item : ∀ x ∈ l, itemE x false = 0 ∧ x.k ≠ 1 ∧ (x.s.toList ≠ [] → (rtF0 x.s.data.toList).isSome = true)
  num : ∀ x ∈ l, (-9223372036854775808 ≤ x.n ∧ x.n < 9223372036854775808) ∧ x.s.size ≤ 128
theorem Lay.nil (at_ : Nat) : Lay at_ [] [] := ⟨rfl, rfl, rfl, rfl, by simp, by simp, by simp⟩
theorem Lay.app {at_ : Nat} {l l' : List It} {C C' : List In} (h : Lay at_ l C) (h' : Lay (at_ + 4 * C.length) l' C') : Lay at_ (l ++ l') (C ++ C') := by
  refine ⟨?_, ?_, ?_, ?_, ?_, ?_, ?_⟩
  · rw [zL_append, flatI_app, h.fin, h.flat, h'.flat]
  · rw [zL_append, goodL_app, h.fin, h.good, h'.good]; rfl
  · have h1 := h.know
    have h2 := h'.know
    unfold knows at h1 h2 ⊢
    rw [zL_append, List.all_append, h1, h2]; rfl
  · rw [zL_append, endA_app, h.fin, h'.fin, List.length_append]; omega
  · intro c hc
    rcases List.mem_append.1 hc with hc | hc
    · exact h.back c hc
    · exact h'.back c hc
  · intro c hc
    rcases List.mem_append.1 hc with hc | hc
    · exact h.item c hc
    · exact h'.item c hc
  · intro c hc
    rcases List.mem_append.1 hc with hc | hc
    · exact h.num c hc
    · exact h'.num c hc
/-- one item without a place. -/
theorem Lay.one (at_ : Nat) (ha : at_ ≤ 1100000) (x : It) (C : List In) (hj : ¬ jumps x) (hk : x.k ≠ 1 ∧ x.k ≤ 7) (hc : ∀ d, codeM x (leastM x) d = (C, true)) (hs : leastM x = 4 * (C.length : Int)) (hCl : C.length ≤ 12) (hi : itemE x false = 0) (hn : x.s.toList = []) (hb : ∀ c ∈ C, backI c)
    (hnum : (-9223372036854775808 ≤ x.n ∧ x.n < 9223372036854775808) ∧ x.s.size ≤ 128) : Lay at_ [x] C := by
  have hf : ∀ d, fitsM x.k (leastM x) d = true := fun d => by
    unfold jumps at hj
    unfold fitsM
    rw [if_neg (by omega), if_neg (by omega), if_neg (by omega)]
  refine ⟨?_, ?_, ?_, ?_, hb, ?_, ?_⟩
  · show (codeM x (leastM x) _).1 ++ [] = C
    rw [hc, List.append_nil]
  · show ((fitsM x.k (leastM x) _ && (codeM x (leastM x) _).2) && (decide (x.k ≤ 7) && true)) = true
    rw [hc, hf, decide_eq_true hk.2]
    rfl
  · show ((!decide (jumps x) || _) && true) = true
    rw [decide_eq_false hj]
    rfl
  · show wrN ((at_ : Int) + leastM x) = _
    rw [hs]
    unfold wrN
    omega
  · intro y hy
    obtain rfl := List.mem_singleton.1 hy
    exact ⟨hi, hk.1, fun h => absurd hn h⟩
  · intro y hy
    obtain rfl := List.mem_singleton.1 hy
    exact hnum
theorem no_list : no.toList = [] := by decide +kernel
theorem no_size : no.size = 0 := rfl
theorem Lay.ins (at_ : Nat) (ha : at_ ≤ 1100000) (op rd a b n : Int) (hr : rightI op rd a b n = true) (hb : Back op rd a b n) (hn : -9223372036854775808 ≤ n ∧ n < 9223372036854775808) : Lay at_ [⟨2, no, op, rd, a, b, n⟩] [⟨op, rd, a, b, n⟩] := by
  refine Lay.one at_ ha _ _ (by simp [jumps]) ⟨by simp, by simp⟩ (fun d => by simp [codeM]) (by simp [leastM]) (by simp) (by simp [itemE, okI, hr, no_list]) no_list (fun c hc => by obtain rfl := List.mem_singleton.1 hc; exact hb) ⟨hn, by simp [no_size]⟩
theorem liM_right_back (rd : Int) (hrd : 0 ≤ rd ∧ rd ≤ 31) (n : Int) (hn : -9223372036854775808 ≤ n ∧ n < 9223372036854775808) : ∀ c ∈ liL rd n, backI c := by
  intro c hc
  have h1 := ld_right 6 rd n (by unfold Go.Proofs.rdOK; simp [hrd.1, hrd.2]) hn c hc
  obtain ⟨hop, _⟩ := liM_shape 6 rd n c hc
  unfold insR at h1
  obtain ⟨op, d, a, b, k⟩ := c
  simp only at hop h1
  unfold backI
  rcases hop with rfl | rfl | rfl | rfl
  · exact back_1 d a b k h1
  · exact back_22 d a b k h1
  · exact back_28 d a b k h1
  · exact back_31 d a b k h1
theorem Lay.li (at_ : Nat) (ha : at_ ≤ 1100000) (rd n : Int) (hrd : 0 ≤ rd ∧ rd ≤ 31) (hn : -9223372036854775808 ≤ n ∧ n < 9223372036854775808) : Lay at_ [⟨3, no, 0, rd, 0, 0, n⟩] (liL rd n) := by
  refine Lay.one at_ ha _ _ (by simp [jumps]) ⟨by simp, by simp⟩ (fun d => by simp [codeM]) (by simp [leastM]) (liM_len 6 rd n) (by simp [itemE, okI, inB2, onlyB, hrd.1, hrd.2]) no_list (liM_right_back rd hrd n hn) ⟨hn, by simp [no_size]⟩
theorem reach_ok (d : Int) (h : -1048576 ≤ d ∧ d ≤ 1048574) : Go.Proofs.reachB d 1048576 = true := by
  unfold Go.Proofs.reachB
  rw [decide_eq_true h.1, decide_eq_true (show d ≤ 1048576 - 2 by omega)]
  rfl
theorem right_jal (rd d : Int) (hrd : 0 ≤ rd ∧ rd ≤ 31) (hd : -1048576 ≤ d ∧ d ≤ 1048574) (h2 : d % 2 = 0) : rightI 3 rd 0 0 d = true := by
  unfold rightI
  show (((((true && regB rd true) && regB 0 false) && regB 0 false) && immB1 74 d) = true)
  simp [regB, immB1, hrd.1, hrd.2, hd.1, hd.2, h2]
theorem Lay.call (at_ : Nat) (ha : 65536 ≤ at_ ∧ at_ ≤ 1100000) (h4 : at_ % 4 = 0) (s : ByteArray) (t : Nat) (hs : rtN s.data.toList = some t) (ht : 65536 ≤ t ∧ t ≤ 65848 ∧ t % 4 = 0) (h0 : (rtF0 s.data.toList).isSome = true) (hz : namedB s = true) :
    Lay at_ [⟨6, s, 0, 1, 0, 0, 0⟩] [⟨3, 1, 0, 0, (t : Int) - at_⟩] := by
  have hd : distM rtN s at_ = (t : Int) - at_ := by
    unfold distM
    rw [hs, IntKind.wrap_u64]
    unfold wrap64
    simp only [Option.getD_some]
    omega
  have hm : leastM ⟨6, s, 0, 1, 0, 0, 0⟩ = 4 := by unfold leastM; simp
  have hcode : codeM ⟨6, s, 0, 1, 0, 0, 0⟩ 4 ((t : Int) - at_) = ([⟨3, 1, 0, 0, (t : Int) - at_⟩], true) := by
    have h2 : ((t : Int) - at_) % 2 = 0 := by omega
    simp [codeM, h2]
  have hfit : fitsM 6 4 ((t : Int) - at_) = true := by
    have h2 := reach_ok ((t : Int) - at_) (by omega)
    simp [fitsM, h2]
  have hzs : s.size ≤ 128 := by unfold namedB at hz; simp only [Bool.and_eq_true, decide_eq_true_eq] at hz; exact hz.2
  refine ⟨?_, ?_, ?_, ?_, ?_, ?_, ?_⟩
  · show (codeM (⟨6, s, 0, 1, 0, 0, 0⟩ : It) (leastM (⟨6, s, 0, 1, 0, 0, 0⟩ : It)) (distM rtN s at_)).1 ++ [] = _
    rw [hm, hd, hcode]
    rfl
  · show ((fitsM 6 (leastM (⟨6, s, 0, 1, 0, 0, 0⟩ : It)) (distM rtN s at_) && (codeM (⟨6, s, 0, 1, 0, 0, 0⟩ : It) (leastM (⟨6, s, 0, 1, 0, 0, 0⟩ : It)) (distM rtN s at_)).2) && (decide ((6 : Int) ≤ 7) && true)) = true
    rw [hm, hd, hcode, hfit]
    rfl
  · show ((!decide (jumps (⟨6, s, 0, 1, 0, 0, 0⟩ : It)) || (rtN s.data.toList).isSome) && true) = true
    rw [hs]
    simp
  · show wrN ((at_ : Int) + leastM (⟨6, s, 0, 1, 0, 0, 0⟩ : It)) = _
    rw [hm]
    unfold wrN
    simp only [List.length_singleton]
    omega
  · intro c hc
    obtain rfl := List.mem_singleton.1 hc
    exact back_3 1 0 0 _ (right_jal 1 ((t : Int) - at_) ⟨by decide, by decide⟩ ⟨by omega, by omega⟩ (by omega))
  · intro y hy
    obtain rfl := List.mem_singleton.1 hy
    exact ⟨by simp [itemE, okI, inB2, onlyB, hz], by simp, fun _ => h0⟩
  · intro y hy
    obtain rfl := List.mem_singleton.1 hy
    exact ⟨by simp, hzs⟩
end Go.Pat

/- The machine that begins with an image of instructions is the plain machine. Plain: no program in sight. -/
namespace Go.Pat
open Go Go.RowKit Go.Proofs
theorem insB_length4 (L : List In) : (insB L).length = 4 * L.length := by
  induction L with
  | nil => rfl
  | cons c r ih => rw [insB, List.length_append, ih, le_length, List.length_cons]; omega
theorem insB_get (L : List In) (j : Nat) (c : In) (h : L[j]? = some c) (q : Nat) (hq : q < 4) : (insB L)[4 * j + q]? = (le 4 (encZ c.op c.rd c.a c.b c.n))[q]? := by
  induction L generalizing j with
  | nil => cases h
  | cons d r ih =>
    rw [insB]
    cases j with
    | zero =>
      obtain rfl : d = c := by simpa using h
      rw [List.getElem?_append_left (by rw [le_length]; omega), Nat.mul_zero, Nat.zero_add]
    | succ j =>
      rw [List.getElem?_append_right (by rw [le_length]; omega), le_length, show 4 * (j + 1) + q - 4 = 4 * j + q by omega]
      exact ih j (by simpa using h)

theorem data_is : dataM rtData = List.replicate 131120 0 := by
  have h8 : le 8 (wrN 0) = List.replicate 8 0 := by decide
  have e : dataM rtData = [] ++ (le 8 (wrN 0) ++ ([] ++ (le 8 (wrN 0) ++ (List.replicate 24 0 ++ ([] ++ (List.replicate 8 0 ++ ([] ++ (List.replicate 131072 0 ++ [])))))))) := rfl
  rw [e, h8, List.append_nil, List.nil_append, List.nil_append, List.nil_append, List.nil_append, List.replicate_append_replicate, List.replicate_append_replicate, List.replicate_append_replicate, List.replicate_append_replicate]
def img3 (T : List UInt8) : List Sgd := [⟨65536, 5, T, T.length⟩, ⟨16777216, 6, List.replicate 131120 0, 131120⟩, ⟨33554432, 6, [], 262144⟩]
theorem img3_is (T : List UInt8) : imgL T (dataM rtData) = img3 T := by
  rw [data_is]
  unfold imgL img3
  rw [List.length_replicate, if_neg (by decide)]
  rfl
theorem img3_ok (T : List UInt8) (h : 4 ≤ T.length) (h2 : T.length ≤ 16000000) : checkE 65536 (img3 T) = 0 := by
  have hl : (img3 T).length = 3 := rfl
  have a5 : allowedB 5 = true := by decide
  have a6 : allowedB 6 = true := by decide
  have b5 : (bits BinOp.and .i64 5 1 != 0) = true := by decide
  have hr : roundN (65536 + T.length) ≤ 16777216 := by unfold roundN; omega
  have ho : okT (img3 T) 3 = true := by
    show (((true && segB 65536 5 T.length T.length 0) && segB 16777216 6 (List.replicate 131120 (0 : UInt8)).length 131120 (roundN (65536 + T.length))) && segB 33554432 6 0 262144 (roundN (16777216 + 131120))) = true
    rw [List.length_replicate]
    have e3 : segB 33554432 6 0 262144 (roundN (16777216 + 131120)) = true := by decide
    rw [e3]
    unfold segB
    rw [a5, a6]
    simp only [Bool.and_eq_true, decide_eq_true_eq, Bool.true_and, and_true, true_and]
    omega
  have hp : pagT (img3 T) 3 ≤ 4096 := by
    show 0 + roundN T.length / 4096 + roundN 131120 / 4096 + roundN 262144 / 4096 ≤ 4096
    unfold roundN
    omega
  have he : entT 65536 (img3 T) 3 = true := by
    show (((false || entB 65536 65536 5 T.length) || entB 65536 16777216 6 (List.replicate 131120 (0 : UInt8)).length) || entB 65536 33554432 6 0) = true
    have e1 : entB 65536 65536 5 T.length = true := by
      unfold entB
      rw [b5]
      simp only [Bool.true_and, Bool.and_eq_true, decide_eq_true_eq]
      omega
    rw [e1]
    rfl
  unfold checkE
  rw [hl, if_neg]
  rintro (h | h | h | h | h | h)
  · omega
  · omega
  · rw [ho] at h; cases h
  · omega
  · rw [he] at h; cases h
  · omega
theorem img_b0 {T : List UInt8} {fs : List Fr} {en : Nat} (hc : checkE en (img3 T) = 0) (hfs : fs.map Fr.pg = loadT (img3 T) 3) (j : Nat) (hj : j < T.length) : ∃ f, pageOf fs (65536 + j) = some f ∧ f.perm = 5 ∧ byteM fs (65536 + j) = (T[j]).toNat :=
  load_byte hc hfs 0 (by show 0 < 3; decide) j hj
theorem img_b1 {T : List UInt8} {fs : List Fr} {en : Nat} (hc : checkE en (img3 T) = 0) (hfs : fs.map Fr.pg = loadT (img3 T) 3) (j : Nat) (hj : j < (List.replicate 131120 (0 : UInt8)).length) : ∃ f, pageOf fs (16777216 + j) = some f ∧ f.perm = 6 ∧ byteM fs (16777216 + j) = ((List.replicate 131120 (0 : UInt8))[j]).toNat :=
  load_byte hc hfs 1 (by show 1 < 3; decide) j hj
section
variable {L : List In} {fs : List Fr} {en : Nat}
theorem img_txt (hB : ∀ i ∈ L, backI i) (hc : checkE en (img3 (insB L)) = 0) (hfs : fs.map Fr.pg = loadT (img3 (insB L)) 3) (hL : L.length ≤ 4177920) (j : Nat) (c : In) (hj : L[j]? = some c) :
    fetchM fs (65536 + 4 * j) = (encZ c.op c.rd c.a c.b c.n, 0) ∧ decR (encZ c.op c.rd c.a c.b c.n) = some c.ins := by
  obtain ⟨hz, hd⟩ := hB c (List.mem_of_getElem? hj)
  have hjl := (List.getElem?_eq_some_iff.1 hj).1
  refine ⟨?_, hd⟩
  have hT := insB_length4 L
  have hby : ∀ q, q < 4 → ∃ f, pageOf fs (65536 + 4 * j + q) = some f ∧ f.perm = 5 ∧ byteM fs (65536 + 4 * j + q) = encZ c.op c.rd c.a c.b c.n / 256 ^ q % 256 := fun q hq => by
    have hlt : 4 * j + q < (insB L).length := by omega
    obtain ⟨f, h1, h2, h3⟩ := img_b0 hc hfs (4 * j + q) hlt
    refine ⟨f, by rw [Nat.add_assoc]; exact h1, h2, ?_⟩
    have h4 := insB_get L j c hj q hq
    have e : (insB L)[4 * j + q] = UInt8.ofNat (encZ c.op c.rd c.a c.b c.n / 256 ^ q) := by
      have h5 : (insB L)[4 * j + q]? = some (UInt8.ofNat (encZ c.op c.rd c.a c.b c.n / 256 ^ q)) := by
        rw [h4]
        rcases (show q = 0 ∨ q = 1 ∨ q = 2 ∨ q = 3 by omega) with rfl | rfl | rfl | rfl <;> rfl
      exact (List.getElem?_eq_some_iff.1 h5).2
    rw [Nat.add_assoc]
    refine h3.trans ?_
    rw [e, UInt8.toNat_ofNat']
  have ha : askedM fs (65536 + 4 * j) 4 1 = 0 := by
    unfold askedM
    rw [if_neg (by omega)]
    refine askTo_of fun q hq => ?_
    obtain ⟨f, h1, h2, _⟩ := hby q hq
    exact ⟨f, h1, by rw [h2]; decide⟩
  have hn : numM fs (65536 + 4 * j) 4 = encZ c.op c.rd c.a c.b c.n := by
    obtain ⟨_, _, _, h0⟩ := hby 0 (by decide)
    obtain ⟨_, _, _, h1⟩ := hby 1 (by decide)
    obtain ⟨_, _, _, h2⟩ := hby 2 (by decide)
    obtain ⟨_, _, _, h3⟩ := hby 3 (by decide)
    simp only [numM, h0, h1, h2, h3, Nat.reducePow]
    omega
  unfold fetchM
  rw [if_neg (by omega), if_pos ha, hn]
theorem img_dat (hc : checkE en (img3 (insB L)) = 0) (hfs : fs.map Fr.pg = loadT (img3 (insB L)) 3) (x : Nat) (hx : wrB x 1 = true) : (∃ f, pageOf fs x = some f ∧ f.perm = 6) ∧ byteM fs x = 0 := by
  simp only [wrB, Bool.or_eq_true, Bool.and_eq_true, decide_eq_true_eq] at hx
  rcases hx with hx | hx
  · obtain ⟨f, h1, h2, h3⟩ := img_b1 hc hfs (x - 16777216) (by rw [List.length_replicate]; omega)
    rw [show 16777216 + (x - 16777216) = x by omega] at h1 h3
    refine ⟨⟨f, h1, h2⟩, h3.trans ?_⟩
    rw [List.getElem_replicate]
    rfl
  · obtain ⟨_, h2, _⟩ := load_pages hc
    have hi : (x - 33554432) / 4096 < segN ⟨33554432, 6, [], 262144⟩ := by show _ < (262144 + 4095) / 4096; omega
    have hm := loadT_mem (n := 3) (k := 2) (ss := img3 (insB L)) (by decide) (by show 2 < 3; decide) ((x - 33554432) / 4096) hi
    obtain ⟨f, hf, he⟩ := pageOf_of hfs h2 hm (a := x) (by show _ = 33554432 + 4096 * ((x - 33554432) / 4096); omega)
    refine ⟨⟨f, hf, congrArg Pgd.perm he⟩, ?_⟩
    unfold byteM
    rw [hf]
    have hd : f.data = pageB [] ((x - 33554432) / 4096) := congrArg Pgd.data he
    simp only
    rw [hd, List.getD_eq_getElem?_getD, pageB_get _ _ _ (Nat.mod_lt _ (by decide))]
    rfl
/-- THE BEGINNING. -/
theorem init_RR (inp : List UInt8) (hB : ∀ i ∈ L, backI i) (hc : checkE en (img3 (insB L)) = 0) (hfs : fs.map Fr.pg = loadT (img3 (insB L)) 3) (hL : L.length ≤ 4177920) (hlen : lens fs) :
    RR (L.map In.ins) inp ⟨⟨65536, List.replicate 32 0, 0, false, 0, 0, [], 0⟩, fs, inp⟩ ⟨65536, fun _ => 0, fun _ => 0, [], 0⟩ := by
  refine ⟨rfl, List.length_replicate, fun i hi => ?_, rfl, fun i => Nat.zero_lt_succ _, rfl, rfl, rfl, rfl, rfl, ⟨by rw [List.length_map]; exact hL, fun j i hj => ?_, fun x hx => img_dat hc hfs x hx, hlen⟩⟩
  · show (List.replicate 32 0).getD i 0 = 0
    rw [List.getD_eq_getElem?_getD, List.getElem?_replicate, if_pos hi]
    rfl
  · rw [List.getElem?_map] at hj
    obtain ⟨c, hcj, rfl⟩ := Option.map_eq_some_iff.1 hj
    exact ⟨_, img_txt hB hc hfs hL j c hcj⟩
end
end Go.Pat

/- The runtime and a main, assembled. Plain: no program in sight. -/
namespace Go.Pat
open Go Go.RowKit Go.Proofs
def allC (C : List In) : List In := rtI ++ (headC ++ (C ++ tailC))
theorem back_rt : ∀ c ∈ rtI ++ headC, backI c := by
  have h : ∀ c ∈ rtI ++ headC, encZ c.op c.rd c.a c.b c.n < 4294967296 ∧ (decR (encZ c.op c.rd c.a c.b c.n)).map (fun i => (i.op, i.rd, i.rs1, i.rs2, i.imm)) = some (c.op.toNat, c.rd.toNat, c.a.toNat, c.b.toNat, c.n) := by decide +kernel
  intro c hc
  obtain ⟨h1, h2⟩ := h c hc
  refine ⟨h1, ?_⟩
  cases hd : decR (encZ c.op c.rd c.a c.b c.n) with
  | none => rw [hd] at h2; cases h2
  | some i =>
    rw [hd] at h2
    obtain ⟨o, d, a, b, n⟩ := i
    simp only [Option.map_some, Option.some.injEq, Prod.mk.injEq] at h2
    obtain ⟨rfl, rfl, rfl, rfl, rfl⟩ := h2
    rfl
theorem lay_tail (at_ : Nat) (ha : at_ ≤ 1000000) : Lay at_ mainTail tailC := by
  have h1 := Lay.ins at_ (by omega) 14 1 2 0 0 (by decide) (back_14 1 2 0 0 (by decide)) (by decide)
  have h2 := Lay.ins (at_ + 4 * 1) (by omega) 22 2 2 0 16 (by decide) (back_22 2 2 0 16 (by decide)) (by decide)
  have h3 := Lay.ins (at_ + 4 * 1 + 4 * 1) (by omega) 4 0 1 0 0 (by decide) (back_4 0 1 0 0 (by decide)) (by decide)
  exact h1.app (h2.app h3)
theorem rt_size1 : rtText.length = 85 := by decide +kernel
theorem head_size : mainHead.length = 3 := rfl
theorem text_is (l : List It) : rtText ++ bodyL l = (rtText ++ mainHead) ++ (l ++ mainTail) := by simp only [bodyL, List.append_assoc]
theorem rtN_start : rtN nmStart.data.toList = some 65536 := by decide +kernel
theorem lay_main {l : List It} {C : List In} (h : Lay 65856 l C) (hlen : l.length ≤ 100000) (hC : C.length ≤ 230000) (S : List Int) (hS : Fin (rtText ++ bodyL l) rtData 65536 16777216 S) :
    ∃ labs, asmR (rtText ++ bodyL l) rtData 65536 16777216 S = .inr (insB (allC C), dataM rtData, labs) ∧ findM labs nmStart = (65536, true) ∧ ixL labs nmStart 0 = 0 ∧ labs.length ≤ 200000 := by
  have hM : Lay 65856 (l ++ mainTail) (C ++ tailC) := h.app (lay_tail _ (by omega))
  have hno : noLab (l ++ mainTail) := fun x hx => (hM.item x hx).2.1
  have hf0 : fold0 (fun _ => none) (((rtText ++ mainHead) ++ (l ++ mainTail)) ++ rtData) = rtF0 := by
    rw [fold0_app, fold0_app, fold0_no _ _ hno]
    rfl
  have hdl : rtData.length = 9 := rfl
  have hml : mainTail.length = 3 := rfl
  have hb : begM (rtText ++ bodyL l) rtData 65536 16777216 = .inr rtF0 := by
    rw [text_is]
    have := rbegM_good ((rtText ++ mainHead) ++ (l ++ mainTail)) rtData 65536 16777216 ⟨by decide, by decide, by decide, by decide⟩ (by rw [List.length_append, List.length_append, List.length_append, rt_size1, head_size, hdl, hml]; omega)
      (fun x hx => by
        rcases List.mem_append.1 hx with hx | hx
        · exact rt_items x hx
        · exact (hM.item x hx).1) rt_datas
      (by rw [freshB_app, freshB_app, rt_fresh, freshB_no _ _ hno, fold0_app, fold0_no _ _ hno, rt_fresh2]; rfl)
      (fun x hx hn => by
        rw [hf0]
        rcases List.mem_append.1 hx with hx | hx
        · exact rt_named x hx hn
        · exact (hM.item x hx).2.2 hn)
    rw [hf0] at this
    exact this
  have hG : agree rtN (layL (zL rtData) 16777216 (layL (zL (rtText ++ bodyL l)) 65536 rtF0)) := by
    rw [text_is, zL_append, layL_app, layL_no _ _ _ hno]
    exact agree_lay _ _ _ _ (agree_lay _ _ _ _ (agree_none _))
  have hk : knows rtN (zL (rtText ++ bodyL l)) = true := by
    have h1 := rt_knows
    have h2 := hM.know
    unfold knows at h1 h2 ⊢
    rw [text_is, zL_append, List.all_append, h1, h2]
    rfl
  obtain ⟨e1, e2⟩ := same_all hG (zL (rtText ++ bodyL l)) 65536 hk
  have hgd : goodL rtN 65536 (zL (rtText ++ bodyL l)) = true := by
    rw [text_is, zL_append, goodL_app, rt_good, rt_end, hM.good]
    rfl
  have hfl : flatI rtN 65536 (zL (rtText ++ bodyL l)) = allC C := by
    rw [text_is, zL_append, flatI_app, rtI_is, rt_end, hM.flat]
    unfold allC
    rw [List.append_assoc]
  have ha := asm_good (rtText ++ bodyL l) rtData 65536 16777216 rtF0 hb (by rw [e1]; exact hgd) S hS
  rw [e2, hfl] at ha
  refine ⟨_, ha, ?_, ?_, ?_⟩
  · obtain ⟨G, hGe⟩ : ∃ G, G = layL (zL rtData) 16777216 (layL (zL (rtText ++ bodyL l)) 65536 rtF0) := ⟨_, rfl⟩
    rw [← hGe] at hG ⊢
    have hs := hG _ _ rtN_start
    show (if nmStart.toList = nmStart.toList then ((G nmStart.data.toList).getD 0, true) else _) = _
    rw [if_pos rfl, hs]
    rfl
  · obtain ⟨G, hGe⟩ : ∃ G, G = layL (zL rtData) 16777216 (layL (zL (rtText ++ bodyL l)) 65536 rtF0) := ⟨_, rfl⟩
    rw [← hGe]
    show (if nmStart.toList = nmStart.toList then (0 : Int) else _) = _
    rw [if_pos rfl]
  · refine Nat.le_trans (labsM_len _ _) ?_
    rw [text_is, List.length_append, List.length_append, List.length_append, List.length_append, rt_size1, head_size, hdl, hml]
    omega
theorem allC_len (C : List In) : (allC C).length = 83 + C.length := by
  unfold allC
  rw [List.length_append, List.length_append, List.length_append, show rtI.length = 78 from rfl, show headC.length = 2 from rfl, show tailC.length = 3 from rfl]
  omega
theorem allC_back {l : List It} {C : List In} (h : Lay 65856 l C) : ∀ c ∈ allC C, backI c := by
  intro c hc
  unfold allC at hc
  rw [← List.append_assoc] at hc
  rcases List.mem_append.1 hc with hc | hc
  · exact back_rt c hc
  · rcases List.mem_append.1 hc with hc | hc
    · exact h.back c hc
    · exact (lay_tail 65536 (by decide)).back c hc
/-- a main that is assembled so. -/
structure Asmd (l : List It) (C : List In) : Prop where
  len : l.length ≤ 100000
  clen : C.length ≤ 230000
  asm : ∀ S : List Int, Fin (rtText ++ bodyL l) rtData 65536 16777216 S → ∃ labs, asmR (rtText ++ bodyL l) rtData 65536 16777216 S = .inr (insB (allC C), dataM rtData, labs) ∧ findM labs nmStart = (65536, true) ∧ ixL labs nmStart 0 = 0 ∧ labs.length ≤ 200000
  num : ∀ x ∈ (rtText ++ bodyL l) ++ rtData, (-9223372036854775808 ≤ x.n ∧ x.n < 9223372036854775808) ∧ x.s.size ≤ 128
  back : ∀ c ∈ allC C, backI c
theorem rt_nums : ∀ x ∈ (rtText ++ (mainHead ++ mainTail)) ++ rtData, (-9223372036854775808 ≤ x.n ∧ x.n < 9223372036854775808) ∧ x.s.size ≤ 128 := by decide +kernel
theorem main_nums {l : List It} (h : ∀ x ∈ l, (-9223372036854775808 ≤ x.n ∧ x.n < 9223372036854775808) ∧ x.s.size ≤ 128) : ∀ x ∈ (rtText ++ bodyL l) ++ rtData, (-9223372036854775808 ≤ x.n ∧ x.n < 9223372036854775808) ∧ x.s.size ≤ 128 := by
  intro x hx
  simp only [bodyL, List.mem_append] at hx
  rcases hx with (hx | (hx | hx) | hx) | hx
  · exact rt_nums x (by simp only [List.mem_append]; exact .inl (.inl hx))
  · exact rt_nums x (by simp only [List.mem_append]; exact .inl (.inr (.inl hx)))
  · exact h x hx
  · exact rt_nums x (by simp only [List.mem_append]; exact .inl (.inr (.inr hx)))
  · exact rt_nums x (by simp only [List.mem_append]; exact .inr hx)
theorem Lay.asmd {l : List It} {C : List In} (h : Lay 65856 l C) (hlen : l.length ≤ 100000) (hC : C.length ≤ 230000) : Asmd l C :=
  ⟨hlen, hC, fun S hS => lay_main h hlen hC S hS, main_nums h.num, allC_back h⟩
/-- the machine's instructions. -/
def allP (C : List In) : List Ins := rtP ++ (headC.map In.ins ++ (C.map In.ins ++ tailC.map In.ins))
theorem allP_is (C : List In) : (allC C).map In.ins = allP C := by
  unfold allC allP
  rw [List.map_append, List.map_append, List.map_append, rtP_is]
end Go.Pat

/- Mains that print and read, on the plain machine. Plain: no program in sight. -/
namespace Go.Pat
open Go Go.RowKit Go.Proofs
theorem ldA_same {m m' : Nat → Nat} {a : Nat} : ∀ k, (∀ x, a ≤ x → x < a + k → m' x = m x) → ldA m' a k = ldA m a k
  | 0, _ => rfl
  | k + 1, h => by rw [ldA, ldA, ldA_same k (fun x h1 h2 => h x h1 (by omega)), h (a + k) (by omega) (by omega)]
theorem ldA_st_ne (m : Nat → Nat) (a v n b k : Nat) (h : b + k ≤ a ∨ a + n ≤ b) : ldA (stA m a v n) b k = ldA m b k :=
  ldA_same k fun x h1 h2 => by unfold stA; rw [if_neg (by omega)]
theorem ldA_st_mod (m : Nat → Nat) (a v n : Nat) : ∀ k, k ≤ n → ldA (stA m a v n) a k = v % 256 ^ k
  | 0, _ => by rw [ldA, Nat.pow_zero, Nat.mod_one]
  | k + 1, h => by
    rw [ldA, ldA_st_mod m a v n k (by omega), Nat.mod_pow_succ]
    unfold stA
    rw [if_pos (by omega), show a + k - a = k by omega, Nat.mul_comm]
theorem ldA_st8 (m : Nat → Nat) (a v : Nat) (hv : v < 18446744073709551616) : ldA (stA m a v 8) a 8 = v := by
  rw [ldA_st_mod m a v 8 8 (Nat.le_refl _)]
  exact Nat.mod_eq_of_lt hv
section
variable {P : List Ins} {inp : List UInt8} {pc : Nat} {r m : Nat → Nat} {o : List UInt8} {i : Nat}
theorem call_to (pre post : List Ins) (t : Nat) (hP : P = pre ++ (⟨3, 1, 0, 0, (t : Int) - (pc : Nat)⟩ : In).ins :: post) (hpc : pc = 65536 + 4 * pre.length) (ht : t < 18446744073709551616) : stepA P inp ⟨pc, r, m, o, i⟩ = some ⟨t, up r 1 (pc + 4), m, o, i⟩ := by
  subst hP
  exact st_jal 1 ((t : Int) - (pc : Nat)) (insAt_mid pre post _ pc hpc) t (by unfold wrN; omega)
theorem mid_to {C : List In} (pre post : List Ins) (rd : Nat) (hrd : rd ≠ 0) (n : Int) (hn : -9223372036854775808 ≤ n ∧ n < 9223372036854775808) (hP : P = pre ++ (C.map In.ins ++ post)) (hC : C = liL rd n) (hpc : pc = 65536 + 4 * pre.length) (h0 : r 0 = 0) (hs : r rd < 18446744073709551616) :
    ∃ r', To P inp 12 ⟨pc, r, m, o, i⟩ ⟨pc + 4 * C.length, r', m, o, i⟩ ∧ r' rd = wrN n ∧ ∀ x, x ≠ rd → r' x = r x := by
  subst hP hC hpc
  have := li_to inp pre post rd hrd n hn r m o i h0 hs
  rw [List.append_assoc, show 65536 + 4 * (pre.length + (liL (rd : Int) n).length) = 65536 + 4 * pre.length + 4 * (liL (rd : Int) n).length by omega] at this
  exact this
end
/-- what a main with this code does, from its first item to its last. -/
def BodyRun (C : List In) (inp : List UInt8) (N : Nat) (out : List UInt8) : Prop :=
  ∀ (r m : Nat → Nat), Good ⟨65856, r, m, [], 0⟩ → r 2 = 33816560 → ldA m 33816560 8 = 65552 → (∀ x, x < 33816560 → m x = 0) →
    ∃ r' m' i', To (allP C) inp N ⟨65856, r, m, [], 0⟩ ⟨65856 + 4 * C.length, r', m', out, i'⟩ ∧ r' 2 = 33816560 ∧ ldA m' 33816560 8 = 65552
theorem allP_rt (C : List In) : allP C = rtP ++ (headC.map In.ins ++ (C.map In.ins ++ tailC.map In.ins)) := rfl
theorem allP_len (C : List In) : (allP C).length = 83 + C.length := by rw [← allP_is, List.length_map, allC_len]
theorem allP_mid (C : List In) : allP C = (rtP ++ headC.map In.ins) ++ (C.map In.ins ++ tailC.map In.ins) := by rw [allP_rt, List.append_assoc]
/-- from the beginning to a main's first item. -/
theorem start_to (C : List In) (inp : List UInt8) (hC : C.length ≤ 230000) : ∃ r m : Nat → Nat, To (allP C) inp 6 ⟨65536, fun _ => 0, fun _ => 0, [], 0⟩ ⟨65856, r, m, [], 0⟩ ∧ Good ⟨65856, r, m, [], 0⟩ ∧ r 2 = 33816560 ∧ ldA m 33816560 8 = 65552 ∧ ∀ x, x < 33816560 → m x = 0 := by
  have hfew : (allP C).length ≤ 4177920 := by rw [allP_len]; omega
  have hA : To (allP C) inp 6 ⟨65536, fun _ => 0, fun _ => 0, [], 0⟩ ⟨65856, up (up (up (up (up (fun _ => 0) 2 33816576) 3 33554432) 3 (aluA 31 33554432 (wrN 512))) 1 65552) 2 33816560, stA (fun _ => 0) 33816560 65552 8, [], 0⟩ := by
    refine To.via (st_lui 2 8256 rfl 33816576 (by decide)) ?_
    refine To.via (st_lui 3 8192 rfl 33554432 (by decide)) ?_
    refine To.via (st_ai 31 3 3 512 (by decide) rfl _ (by rw [up_eq _ _ _ (by decide)])) ?_
    refine To.via (st_jal 1 300 rfl 65848 (by decide)) ?_
    refine To.via (st_ai 22 2 2 (-16) (by decide) rfl 33816560 (alu_addi _ _ _ (by rw [up_ne _ _ _ _ (by decide), up_ne _ _ _ _ (by decide), up_ne _ _ _ _ (by decide), up_eq _ _ _ (by decide)]; decide))) ?_
    refine To.via (st_sd 2 1 0 rfl 33816560 (by rw [up_eq _ _ _ (by decide)]; decide) (by decide)) ?_
    exact To.refl 0
  exact ⟨_, _, hA, hA.good hfew ⟨fun _ => by show 0 < _; decide, fun _ => by show 0 < _; decide, rfl⟩, rfl, ldA_st8 _ _ _ (by decide), fun x hx => by unfold stA; rw [if_neg (by omega)]⟩
/-- from a main's last item to the exit. -/
theorem end_to (C : List In) (inp : List UInt8) (r1 m1 : Nat → Nat) (out : List UInt8) (i1 : Nat) (h2 : r1 2 = 33816560) (hl : ldA m1 33816560 8 = 65552) :
    ∃ r', To (allP C) inp 5 ⟨65856 + 4 * C.length, r1, m1, out, i1⟩ ⟨65560, r', m1, out, i1⟩ ∧ r' 17 = 93 ∧ r' 10 = 0 := by
  have hlen : (rtP ++ (headC.map In.ins ++ C.map In.ins)).length = 80 + C.length := by
    rw [List.length_append, List.length_append, List.length_map, List.length_map, show rtP.length = 78 from rfl, show headC.length = 2 from rfl]
    omega
  have hP : allP C = (rtP ++ (headC.map In.ins ++ C.map In.ins)) ++ ⟨14, 1, 2, 0, 0⟩ :: ⟨22, 2, 2, 0, 16⟩ :: [⟨4, 0, 1, 0, 0⟩] := by
    unfold allP
    simp only [List.append_assoc]
    rfl
  have hi1 : insAt (allP C) (65856 + 4 * C.length) = some ⟨14, 1, 2, 0, 0⟩ := by rw [hP]; exact insAt_mid _ _ _ _ (by rw [hlen]; omega)
  have hi2 : insAt (allP C) (65856 + 4 * C.length + 4) = some ⟨22, 2, 2, 0, 16⟩ := by
    rw [hP, show ∀ (l : List Ins) (a b c : Ins), l ++ a :: b :: [c] = (l ++ [a]) ++ b :: [c] by simp]
    exact insAt_mid _ _ _ _ (by rw [List.length_append, hlen, List.length_singleton]; omega)
  have hi3 : insAt (allP C) (65856 + 4 * C.length + 4 + 4) = some ⟨4, 0, 1, 0, 0⟩ := by
    rw [hP, show ∀ (l : List Ins) (a b c : Ins), l ++ a :: b :: [c] = (l ++ [a, b]) ++ c :: [] by simp]
    exact insAt_mid _ _ _ _ (by rw [List.length_append, hlen]; show _ = 65536 + 4 * (80 + C.length + 2); omega)
  have hT : To (allP C) inp 5 ⟨65856 + 4 * C.length, r1, m1, out, i1⟩ ⟨65560, up (up (up (up (up r1 1 65552) 2 33816576) 0 (65856 + 4 * C.length + 4 + 4 + 4)) 10 0) 17 93, m1, out, i1⟩ := by
    refine To.via (st_ld 1 2 0 hi1 33816560 (by rw [h2]; decide) (by decide)) ?_
    rw [hl]
    refine To.via (st_ai 22 2 2 16 (by decide) hi2 33816576 (alu_addi _ _ _ (by rw [up_ne _ _ _ _ (by decide), h2]; decide))) ?_
    refine To.via (st_jalr 0 1 0 hi3 65552 (by rw [up_ne _ _ _ _ (by decide), up_eq _ _ _ (by decide)]; decide)) ?_
    refine To.via (st_ai 22 10 0 0 (by decide) rfl 0 (alu_addi _ _ _ (by rw [show up (up (up r1 1 65552) 2 33816576) 0 (65856 + 4 * C.length + 4 + 4 + 4) 0 = 0 from rfl]; decide))) ?_
    refine To.via (st_ai 22 17 0 93 (by decide) rfl 93 (alu_addi _ _ _ (by rw [show up (up (up (up r1 1 65552) 2 33816576) 0 (65856 + 4 * C.length + 4 + 4 + 4)) 10 0 0 = 0 from rfl]; decide))) ?_
    exact To.refl 0
  exact ⟨_, hT, rfl, rfl⟩
theorem main_to {C : List In} {inp : List UInt8} {N : Nat} {out : List UInt8} (h : BodyRun C inp N out) (hC : C.length ≤ 230000) :
    ∃ r' m' i', To (allP C) inp (N + 12) ⟨65536, fun _ => 0, fun _ => 0, [], 0⟩ ⟨65560, r', m', out, i'⟩ ∧ r' 17 = 93 ∧ r' 10 = 0 := by
  obtain ⟨r, m, hA, hg, e2, el, ez⟩ := start_to C inp hC
  obtain ⟨r1, m1, i1, hB, h2, hl⟩ := h r m hg e2 el ez
  obtain ⟨r2, hT, h17, h10⟩ := end_to C inp r1 m1 out i1 h2 hl
  exact ⟨r2, m1, i1, ((hA.trans hB).trans hT).mono (by omega), h17, h10⟩
/-- a run that comes to an exit. -/
theorem exit_run {l : List It} {C : List In} {inp : List UInt8} (hA : Asmd l C) {N : Nat} {b : Ab} (hT : To (allP C) inp N ⟨65536, fun _ => 0, fun _ => 0, [], 0⟩ b) {i : Ins} (hi : insAt (allP C) b.pc = some i) (ho : i.op = 64) (h17 : b.r 17 = 93)
    {fs : List Fr} (hfs : fs.map Fr.pg = loadT (img3 (insB (allC C))) 3) (hlen : lens fs) (n : Nat) (hn : N + 1 ≤ n) :
    (runM n ⟨⟨65536, List.replicate 32 0, 0, false, 0, 0, [], 0⟩, fs, inp⟩).2.c.halted = true ∧ (runM n ⟨⟨65536, List.replicate 32 0, 0, false, 0, 0, [], 0⟩, fs, inp⟩).2.c.code = ((b.r 10 % 256 : Nat) : Int) ∧ (runM n ⟨⟨65536, List.replicate 32 0, 0, false, 0, 0, [], 0⟩, fs, inp⟩).2.c.fault = 0 ∧ (runM n ⟨⟨65536, List.replicate 32 0, 0, false, 0, 0, [], 0⟩, fs, inp⟩).2.c.out = b.o := by
  have hC := hA.clen
  have hc : checkE 65536 (img3 (insB (allC C))) = 0 := img3_ok _ (by rw [insB_length4, allC_len]; omega) (by rw [insB_length4, allC_len]; omega)
  have hR := init_RR inp hA.back hc hfs (by rw [allC_len]; omega) hlen
  rw [allP_is] at hR
  exact run_end hR hT hi ho h17 n hn
/-- THE RUN OF A MAIN. -/
theorem main_run {l : List It} {C : List In} {inp : List UInt8} {N : Nat} {out : List UInt8} (hA : Asmd l C) (h : BodyRun C inp N out) {fs : List Fr} (hfs : fs.map Fr.pg = loadT (img3 (insB (allC C))) 3) (hlen : lens fs) (n : Nat) (hn : N + 13 ≤ n) :
    (runM n ⟨⟨65536, List.replicate 32 0, 0, false, 0, 0, [], 0⟩, fs, inp⟩).2.c.halted = true ∧ (runM n ⟨⟨65536, List.replicate 32 0, 0, false, 0, 0, [], 0⟩, fs, inp⟩).2.c.code = 0 ∧ (runM n ⟨⟨65536, List.replicate 32 0, 0, false, 0, 0, [], 0⟩, fs, inp⟩).2.c.fault = 0 ∧ (runM n ⟨⟨65536, List.replicate 32 0, 0, false, 0, 0, [], 0⟩, fs, inp⟩).2.c.out = out := by
  obtain ⟨r', m', i', hT, h17, h10⟩ := main_to h hA.clen
  obtain ⟨q1, q2, q3, q4⟩ := exit_run hA hT (i := ⟨64, 0, 0, 0, 0⟩) (show insAt (allP C) 65560 = some ⟨64, 0, 0, 0, 0⟩ from rfl) rfl h17 hfs hlen n (by omega)
  refine ⟨q1, q2.trans ?_, q3, q4⟩
  show ((r' 10 % 256 : Nat) : Int) = 0
  rw [h10]
  rfl
end Go.Pat

/- Mains that print numbers, and that read and print bytes: their code and what they write. Plain: no program in sight. -/
namespace Go.Pat
open Go Go.RowKit Go.Proofs
def nmPrint : ByteArray := ⟨#[114, 116, 46, 112, 114, 105, 110, 116]⟩
def callI (s : ByteArray) : It := ⟨6, s, 0, 1, 0, 0, 0⟩
def liIt (rd n : Int) : It := ⟨3, no, 0, rd, 0, 0, n⟩
def jalC (t at_ : Nat) : In := ⟨3, 1, 0, 0, (t : Int) - (at_ : Nat)⟩
theorem lay_print (at_ : Nat) (ha : 65536 ≤ at_ ∧ at_ ≤ 1100000) (h4 : at_ % 4 = 0) : Lay at_ [callI nmPrint] [jalC 65564 at_] :=
  Lay.call at_ ha h4 nmPrint 65564 (by decide +kernel) (by decide) (by decide +kernel) (by decide)
/-- the registers and the bytes that a call of print or read may change. -/
def keepR (r r' : Nat → Nat) : Prop := ∀ x, x ≠ 1 → x ≠ 5 → x ≠ 6 → x ≠ 7 → x ≠ 10 → x ≠ 17 → x ≠ 28 → x ≠ 29 → r' x = r x
def keepM (m m' : Nat → Nat) : Prop := ∀ x, x < 16777236 ∨ 16777256 ≤ x → m' x = m x
theorem keepR.refl (r : Nat → Nat) : keepR r r := fun _ _ _ _ _ _ _ _ _ => rfl
theorem keepM.refl (m : Nat → Nat) : keepM m m := fun _ _ => rfl
theorem keepR.trans {r s t : Nat → Nat} (h : keepR r s) (h2 : keepR s t) : keepR r t := fun x a b c d e f g i => (h2 x a b c d e f g i).trans (h x a b c d e f g i)
theorem keepM.trans {r s t : Nat → Nat} (h : keepM r s) (h2 : keepM s t) : keepM r t := fun x a => (h2 x a).trans (h x a)
section
variable {P rest : List Ins} {inp : List UInt8} {at_ : Nat} {r m : Nat → Nat} {o : List UInt8} {i : Nat}
/-- a call of rt.print. -/
theorem print_call (pre post : List Ins) (hP : P = pre ++ (jalC 65564 at_).ins :: post) (hR : P = rtP ++ rest) (hat : at_ = 65536 + 4 * pre.length) (hf : P.length ≤ 4177920) (hg : Good ⟨at_, r, m, o, i⟩) :
    ∃ r' m', To P inp 241 ⟨at_, r, m, o, i⟩ ⟨at_ + 4, r', m', o ++ (decB (r 10) ++ [10]), i⟩ ∧ keepR r r' ∧ keepM m m' := by
  have hpl : pre.length < P.length := by rw [hP, List.length_append, List.length_cons]; omega
  have h1 := call_to (inp := inp) (r := r) (m := m) (o := o) (i := i) pre post 65564 hP hat (by decide)
  obtain ⟨r', m', h2, k2, _, n2⟩ := print_any rest inp (r 10) (at_ + 4) (up r 1 (at_ + 4)) m o i (up_zero hg.z _ _) (up_ne _ _ _ _ (by decide)) (hg.small 10) (up_eq _ _ _ (by decide)) (by omega) (by omega)
  rw [← hR] at h2
  exact ⟨r', m', (To.via h1 h2).mono (by decide), fun x a b c d e f g j => (k2 x b c d e f g j).trans (up_ne _ _ _ _ a), n2⟩
end
/-- numbers are printed. -/
def printsL : List Int → List It
  | [] => []
  | n :: l => [liIt 10 n] ++ ([callI nmPrint] ++ printsL l)
def printsC : Nat → List Int → List In
  | _, [] => []
  | a, n :: l => liL 10 n ++ ([jalC 65564 (a + 4 * (liL 10 n).length)] ++ printsC (a + 4 * (liL 10 n).length + 4 * 1) l)
def printed : List Int → List UInt8
  | [] => []
  | n :: l => (decB (wrN n) ++ [10]) ++ printed l
theorem printsC_len : ∀ (l : List Int) (a : Nat), (printsC a l).length ≤ 13 * l.length
  | [], _ => Nat.le_refl _
  | n :: l, a => by
    have h1 : (liL 10 n).length ≤ 12 := liM_len 6 10 n
    have h2 := printsC_len l (a + 4 * (liL 10 n).length + 4 * 1)
    rw [printsC, List.length_append, List.length_append, List.length_singleton, List.length_cons]
    omega
theorem printsL_len : ∀ (l : List Int), (printsL l).length = 2 * l.length
  | [] => rfl
  | n :: l => by
    rw [printsL, List.length_append, List.length_append, printsL_len l, List.length_cons]
    simp only [List.length_cons, List.length_nil]
    omega
def i64B (n : Int) : Prop := -9223372036854775808 ≤ n ∧ n < 9223372036854775808
theorem lay_prints : ∀ (l : List Int) (a : Nat), 65536 ≤ a → a % 4 = 0 → a + 52 * l.length ≤ 1100000 → (∀ n ∈ l, i64B n) → Lay a (printsL l) (printsC a l)
  | [], a, _, _, _, _ => Lay.nil a
  | n :: l, a, h1, h4, h2, hn => by
    have hl : (liL 10 n).length ≤ 12 := liM_len 6 10 n
    rw [List.length_cons] at h2
    refine (Lay.li a (by omega) 10 n (by decide) (hn n (by simp))).app ((lay_print _ ⟨by omega, by omega⟩ (by omega)).app ?_)
    exact lay_prints l _ (by omega) (by rw [List.length_singleton]; omega) (by rw [List.length_singleton]; omega) fun x hx => hn x (by simp [hx])
theorem run_prints {P rest : List Ins} {inp : List UInt8} (hR : P = rtP ++ rest) (hf : P.length ≤ 4177920) : ∀ (l : List Int) (at_ : Nat) (pre post : List Ins) (r m : Nat → Nat) (o : List UInt8) (i : Nat), P = pre ++ ((printsC at_ l).map In.ins ++ post) → at_ = 65536 + 4 * pre.length → (∀ n ∈ l, i64B n) → Good ⟨at_, r, m, o, i⟩ →
    ∃ r' m', To P inp (253 * l.length) ⟨at_, r, m, o, i⟩ ⟨at_ + 4 * (printsC at_ l).length, r', m', o ++ printed l, i⟩ ∧ keepR r r' ∧ keepM m m'
  | [], at_, pre, post, r, m, o, i, _, _, _, _ => ⟨r, m, by show To P inp _ _ ⟨at_ + 0, r, m, o ++ [], i⟩; rw [Nat.add_zero, List.append_nil]; exact To.refl _, keepR.refl _, keepM.refl _⟩
  | n :: l, at_, pre, post, r, m, o, i, hP, hat, hn, hg => by
    obtain ⟨C, hC⟩ : ∃ C, C = liL 10 n := ⟨_, rfl⟩
    have hlen : (printsC at_ (n :: l)).length = C.length + 1 + (printsC (at_ + 4 * C.length + 4 * 1) l).length := by
      rw [printsC, ← hC, List.length_append, List.length_append, List.length_singleton]; omega
    have hP1 : P = pre ++ (C.map In.ins ++ ((jalC 65564 (at_ + 4 * C.length)).ins :: ((printsC (at_ + 4 * C.length + 4 * 1) l).map In.ins ++ post))) := by
      rw [hP, printsC, ← hC]
      simp only [List.map_append, List.append_assoc, List.map_cons, List.cons_append, List.nil_append]
    obtain ⟨r1, h1, e1, k1⟩ := mid_to (inp := inp) (r := r) (m := m) (o := o) (i := i) pre _ 10 (by decide) n (hn n (by simp)) hP1 hC hat hg.z (hg.small 10)
    have hg1 := h1.good hf hg
    have hP2 : P = (pre ++ C.map In.ins) ++ (jalC 65564 (at_ + 4 * C.length)).ins :: ((printsC (at_ + 4 * C.length + 4 * 1) l).map In.ins ++ post) := by rw [hP1]; simp only [List.append_assoc]
    obtain ⟨r2, m2, h2, k2, n2⟩ := print_call (inp := inp) (pre ++ C.map In.ins) _ hP2 hR (by rw [List.length_append, List.length_map]; omega) hf hg1
    have hg2 := h2.good hf hg1
    rw [e1] at h2 hg2
    have hP3 : P = ((pre ++ C.map In.ins) ++ [(jalC 65564 (at_ + 4 * C.length)).ins]) ++ ((printsC (at_ + 4 * C.length + 4 * 1) l).map In.ins ++ post) := by rw [hP1]; simp only [List.append_assoc, List.cons_append, List.nil_append]
    obtain ⟨r3, m3, h3, k3, n3⟩ := run_prints hR hf l (at_ + 4 * C.length + 4 * 1) _ post r2 m2 (o ++ (decB (wrN n) ++ [10])) i hP3 (by rw [List.length_append, List.length_append, List.length_map, List.length_singleton]; omega) (fun x hx => hn x (by simp [hx])) hg2
    refine ⟨r3, m3, ?_, (fun x a b c d e f g j => ((k2.trans k3) x a b c d e f g j).trans (k1 x e)), n2.trans n3⟩
    have := (h1.trans h2).trans h3
    rw [hlen, printed, show at_ + 4 * (C.length + 1 + (printsC (at_ + 4 * C.length + 4 * 1) l).length) = at_ + 4 * C.length + 4 * 1 + 4 * (printsC (at_ + 4 * C.length + 4 * 1) l).length by omega, ← List.append_assoc]
    exact this.mono (by rw [List.length_cons]; omega)
theorem keep_slot {m m' : Nat → Nat} (h : keepM m m') : ldA m' 33816560 8 = ldA m 33816560 8 := ldA_same 8 fun x h1 _ => h x (.inr (by omega))
/-- THE MAIN THAT PRINTS. -/
theorem prints_body (l : List Int) (inp : List UInt8) (hl : l.length ≤ 50) (hn : ∀ n ∈ l, i64B n) : BodyRun (printsC 65856 l) inp (253 * l.length) (printed l) := by
  intro r m hg h2 hs _
  have hlen := printsC_len l 65856
  obtain ⟨r', m', h1, k1, n1⟩ := run_prints (inp := inp) (allP_rt _) (by rw [allP_len]; omega) l 65856 _ _ r m [] 0 (allP_mid _) (by decide) hn hg
  refine ⟨r', m', 0, h1, (k1 2 (by decide) (by decide) (by decide) (by decide) (by decide) (by decide) (by decide) (by decide)).trans h2, (keep_slot n1).trans hs⟩
end Go.Pat
