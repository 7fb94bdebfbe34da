/- What is encoded is decoded again: auipc, jal, jalr and the branches (plain). (Printed by wip/tools/gen_encp.py, then unlint.py.) -/
import Derived.Test.YtemngapfnkokiaaDoorEnc
import Derived.Test.YtemngapfnkokiaaDoorAsmW
import Derived.Test.YtemngapfnkokiaaDoorBytesA
import Derived.Test.YtemngapfnkokiaaDoorDecW
import Derived.BigQuiet
import Derived.Test.YtemngapfnkokiaaDoorCase5K
import Derived.Test.YtemngapfnkokiaaDoorSmall5
import Derived.Test.YtemngapfnkokiaaDoorFindL
import Derived.OwnWalk
import Derived.StillTailTactics
import Derived.Test.YtemngapfnkokiaaDoorRows
import Derived.Test.YtemngapfnkokiaaDoorTie
import Derived.Test.YtemngapfnkokiaaDoorCards
import Derived.Test.YtemngapfnkokiaaDoorOpen
import Derived.ProofKit
import Derived.LaidMore
import Derived.OpenShut
import Derived.Stop.Joined
import Derived.SevenTiedAt
namespace Go.Pat
open Go Go.RowKit Go.Proofs
theorem decGo_first {w op : Nat} : ∀ (k o : Nat), o ≤ op → op < o + k → (∀ j, o ≤ j → j < op → fitsR j w = false) → fitsR op w = true → decGo w k o = some op
  | 0, o, h1, h2, _, _ => by omega
  | k + 1, o, h1, h2, h3, h4 => by
    unfold decGo
    by_cases he : o = op
    · subst he
      rw [if_pos h4]
    · have := h3 o (Nat.le_refl _) (by omega)
      rw [if_neg (by rw [this]; decide)]
      exact decGo_first k (o + 1) (by omega) (by omega) (fun j a b => h3 j (by omega) b) h4
theorem dec_first {w op : Nat} (h1 : 1 ≤ op) (h2 : op < 66) (hx : w < 4294967296) (h3 : ∀ j, 1 ≤ j → j < op → fitsR j w = false) (h4 : fitsR op w = true) : decR w = some (gIns op w) := by
  unfold decR
  rw [decGo_first 65 1 h1 (by omega) h3 h4, gIns_fits op w h1 h2 hx h4]
  rfl
theorem sgn_of12 (n : Int) (h : -2048 ≤ n ∧ n ≤ 2047) : ∃ v : Nat, v < 4096 ∧ n = sgn v 12 := ⟨(n % 4096).toNat, by omega, by unfold sgn; split <;> omega⟩
theorem sgn_of13 (n : Int) (h : -4096 ≤ n ∧ n ≤ 4094) (h2 : n % 2 = 0) : ∃ v : Nat, v < 8192 ∧ v % 2 = 0 ∧ n = sgn v 13 := ⟨(n % 8192).toNat, by omega, by omega, by unfold sgn; split <;> omega⟩
theorem sgn_of20 (n : Int) (h : -524288 ≤ n ∧ n ≤ 524287) : ∃ v : Nat, v < 1048576 ∧ n = sgn v 20 := ⟨(n % 1048576).toNat, by omega, by unfold sgn; split <;> omega⟩
theorem sgn_of21 (n : Int) (h : -1048576 ≤ n ∧ n ≤ 1048574) (h2 : n % 2 = 0) : ∃ v : Nat, v < 2097152 ∧ v % 2 = 0 ∧ n = sgn v 21 := ⟨(n % 2097152).toNat, by omega, by omega, by unfold sgn; split <;> omega⟩
theorem head0 (c f d a b : Nat) (h1 : c < 128) (h2 : f < 8) (h3 : d < 32) (h4 : a < 32) (h5 : b < 32) : headN c f d a b = c + d * 128 + f * 4096 + a * 32768 + b * 1048576 := or5 c f d a b h1 h2 h3 h4 h5
theorem divs (x lo k q : Nat) (hx : x = lo + q * k) (hl : lo < k) : x / k = q := by
  subst hx
  rw [Nat.add_mul_div_right _ _ (by omega), Nat.div_eq_of_lt hl, Nat.zero_add]
theorem divmod (x lo k q m r : Nat) (hx : x = lo + (r + q * m) * k) (hl : lo < k) (hr : r < m) : x / k % m = r := by
  rw [divs x lo k (r + q * m) hx hl, Nat.add_mul_mod_self_right, Nat.mod_eq_of_lt hr]
theorem mods (x r k q : Nat) (hx : x = r + q * k) (hr : r < k) : x % k = r := by
  subst hx
  rw [Nat.add_mul_mod_self_right, Nat.mod_eq_of_lt hr]
theorem dig21 (v : Nat) (h2 : v % 2 = 0) : v = v / 2 % 1024 * 2 + v / 2048 % 2 * 2048 + v / 4096 % 256 * 4096 + v / 1048576 * 1048576 := by
  rw [show v / 2048 = v / 2 / 1024 by rw [Nat.div_div_eq_div_mul], show v / 4096 = v / 2 / 1024 / 2 by rw [Nat.div_div_eq_div_mul, Nat.div_div_eq_div_mul], show v / 1048576 = v / 2 / 1024 / 2 / 256 by rw [Nat.div_div_eq_div_mul, Nat.div_div_eq_div_mul, Nat.div_div_eq_div_mul]]
  have hu : v = v / 2 * 2 := by omega
  generalize v / 2 = u at *
  have a1 := Nat.div_add_mod u 1024
  have a2 := Nat.div_add_mod (u / 1024) 2
  have a3 := Nat.div_add_mod (u / 1024 / 2) 256
  generalize u % 1024 = r1 at *
  generalize u / 1024 % 2 = r2 at *
  generalize u / 1024 / 2 % 256 = r3 at *
  generalize u / 1024 / 2 / 256 = r4 at *
  generalize u / 1024 / 2 = r5 at *
  generalize u / 1024 = r6 at *
  clear h2
  omega
theorem dig13 (v : Nat) (h2 : v % 2 = 0) : v = v / 2 % 16 * 2 + v / 32 % 64 * 32 + v / 2048 % 2 * 2048 + v / 4096 * 4096 := by
  rw [show v / 32 = v / 2 / 16 by rw [Nat.div_div_eq_div_mul], show v / 2048 = v / 2 / 16 / 64 by rw [Nat.div_div_eq_div_mul, Nat.div_div_eq_div_mul], show v / 4096 = v / 2 / 16 / 64 / 2 by rw [Nat.div_div_eq_div_mul, Nat.div_div_eq_div_mul, Nat.div_div_eq_div_mul]]
  have hu : v = v / 2 * 2 := by omega
  generalize v / 2 = u at *
  have a1 := Nat.div_add_mod u 16
  have a2 := Nat.div_add_mod (u / 16) 64
  have a3 := Nat.div_add_mod (u / 16 / 64) 2
  generalize u % 16 = r1 at *
  generalize u / 16 % 64 = r2 at *
  generalize u / 16 / 64 % 2 = r3 at *
  generalize u / 16 / 64 / 2 = r4 at *
  generalize u / 16 / 64 = r5 at *
  generalize u / 16 = r6 at *
  clear h2
  omega
theorem dg_U (d v x : Nat) (hd : d < 32) (_hv : v < 1048576) (hx : x = 23 + d * 128 + v * 4096) : x % 128 = 23 ∧ x / 128 % 32 = d ∧ x / 4096 = v :=
  ⟨mods x 23 128 (d + v * 32) (by omega) (by decide), divmod x (23) 128 (v) 32 d (by omega) (by omega) hd, divs x (23 + d * 128) 4096 v (by omega) (by omega)⟩
theorem dg_J (d f p e t x : Nat) (hd : d < 32) (hf : f < 256) (hp : p < 2) (he : e < 1024) (_ht : t < 2) (hx : x = 111 + d * 128 + f * 4096 + p * 1048576 + e * 2097152 + t * 2147483648) : x % 128 = 111 ∧ x / 128 % 32 = d ∧ x / 2097152 % 1024 = e ∧ x / 1048576 % 2 = p ∧ x / 4096 % 256 = f ∧ x / 2147483648 = t :=
  ⟨mods x 111 128 (d + f * 32 + p * 8192 + e * 16384 + t * 16777216) (by omega) (by decide), divmod x (111) 128 (f + p * 256 + e * 512 + t * 524288) 32 d (by omega) (by omega) hd, divmod x (111 + d * 128 + f * 4096 + p * 1048576) 2097152 (t) 1024 e (by omega) (by omega) he, divmod x (111 + d * 128 + f * 4096) 1048576 (e + t * 1024) 2 p (by omega) (by omega) hp, divmod x (111 + d * 128) 4096 (p + e * 2 + t * 2048) 256 f (by omega) (by omega) hf, divs x (111 + d * 128 + f * 4096 + p * 1048576 + e * 2097152) 2147483648 t (by omega) (by omega)⟩
theorem dg_I (d a v x : Nat) (hd : d < 32) (ha : a < 32) (_hv : v < 4096) (hx : x = 103 + d * 128 + a * 32768 + v * 1048576) : x % 128 = 103 ∧ x / 4096 % 8 = 0 ∧ x / 128 % 32 = d ∧ x / 32768 % 32 = a ∧ x / 1048576 = v :=
  ⟨mods x 103 128 (d + a * 256 + v * 8192) (by omega) (by decide), divmod x (103 + d * 128) 4096 (a + v * 32) 8 0 (by omega) (by omega) (by decide), divmod x (103) 128 (a * 8 + v * 256) 32 d (by omega) (by omega) hd, divmod x (103 + d * 128) 32768 (v) 32 a (by omega) (by omega) ha, divs x (103 + d * 128 + a * 32768) 1048576 v (by omega) (by omega)⟩
theorem dg_B (p e c a b g t x : Nat) (hp : p < 2) (he : e < 16) (hc : c < 8) (ha : a < 32) (hb : b < 32) (hg : g < 64) (_ht : t < 2) (hx : x = 99 + p * 128 + e * 256 + c * 4096 + a * 32768 + b * 1048576 + g * 33554432 + t * 2147483648) : x % 128 = 99 ∧ x / 4096 % 8 = c ∧ x / 32768 % 32 = a ∧ x / 1048576 % 32 = b ∧ x / 256 % 16 = e ∧ x / 33554432 % 64 = g ∧ x / 128 % 2 = p ∧ x / 2147483648 = t :=
  ⟨mods x 99 128 (p + e * 2 + c * 32 + a * 256 + b * 8192 + g * 262144 + t * 16777216) (by omega) (by decide), divmod x (99 + p * 128 + e * 256) 4096 (a + b * 32 + g * 1024 + t * 65536) 8 c (by omega) (by omega) hc, divmod x (99 + p * 128 + e * 256 + c * 4096) 32768 (b + g * 32 + t * 2048) 32 a (by omega) (by omega) ha, divmod x (99 + p * 128 + e * 256 + c * 4096 + a * 32768) 1048576 (g + t * 64) 32 b (by omega) (by omega) hb, divmod x (99 + p * 128) 256 (c + a * 8 + b * 256 + g * 8192 + t * 524288) 16 e (by omega) (by omega) he, divmod x (99 + p * 128 + e * 256 + c * 4096 + a * 32768 + b * 1048576) 33554432 (t) 64 g (by omega) (by omega) hg, divmod x (99) 128 (e + c * 16 + a * 128 + b * 4096 + g * 131072 + t * 8388608) 2 p (by omega) (by omega) hp, divs x (99 + p * 128 + e * 256 + c * 4096 + a * 32768 + b * 1048576 + g * 33554432) 2147483648 t (by omega) (by omega)⟩
/-- the word of auipc. -/
theorem wd_U (d v : Nat) (hd : d < 32) (hv : v < 1048576) : rwordN 85 23 0 0 d 0 0 (sgn v 20) = 23 + d * 128 + v * 4096 := by
  show headN 23 0 d 0 0 ||| bitI (sgn v 20) 0 20 * 4096 = _
  rw [bitI_sgn20 v hv, head0 23 0 d 0 0 (by decide) (by decide) hd (by decide) (by decide), show v * 4096 = v * 2 ^ 12 from rfl, or_add _ v 12 (by omega)]
  omega
theorem wd_J (d v : Nat) (hd : d < 32) (hv : v < 2097152) : rwordN 74 111 0 0 d 0 0 (sgn v 21) = 111 + d * 128 + v / 4096 % 256 * 4096 + v / 2048 % 2 * 1048576 + v / 2 % 1024 * 2097152 + v / 1048576 * 2147483648 := by
  show headN 111 0 d 0 0 ||| bitI (sgn v 21) 12 8 * 4096 ||| bitI (sgn v 21) 11 1 * 1048576 ||| bitI (sgn v 21) 1 10 * 2097152 ||| bitI (sgn v 21) 20 1 * 2147483648 = _
  obtain ⟨e1, e2, e3, e4⟩ := bitI_sgn21 v hv
  have b1 : v / 4096 % 256 < 256 := Nat.mod_lt _ (by decide)
  have b2 : v / 2048 % 2 < 2 := Nat.mod_lt _ (by decide)
  have b3 : v / 2 % 1024 < 1024 := Nat.mod_lt _ (by decide)
  rw [e1, e2, e3, e4, head0 111 0 d 0 0 (by decide) (by decide) hd (by decide) (by decide)]
  generalize v / 4096 % 256 = f at *
  generalize v / 2048 % 2 = p at *
  generalize v / 2 % 1024 = e at *
  generalize v / 1048576 = t at *
  rw [show f * 4096 = f * 2 ^ 12 from rfl, or_add _ f 12 (by omega), show p * 1048576 = p * 2 ^ 20 from rfl, or_add _ p 20 (by omega), show e * 2097152 = e * 2 ^ 21 from rfl, or_add _ e 21 (by omega), show t * 2147483648 = t * 2 ^ 31 from rfl, or_add _ t 31 (by omega)]
  omega
theorem wd_I (d a v : Nat) (hd : d < 32) (ha : a < 32) (hv : v < 4096) : rwordN 73 103 0 0 d a 0 (sgn v 12) = 103 + d * 128 + a * 32768 + v * 1048576 := by
  show headN 103 0 d a 0 ||| bitI (sgn v 12) 0 12 * 1048576 = _
  rw [(bitI_sgn12 v hv).1, head0 103 0 d a 0 (by decide) (by decide) hd ha (by decide), show v * 1048576 = v * 2 ^ 20 from rfl, or_add _ v 20 (by omega)]
  omega
theorem wd_B (f3 a b v : Nat) (hf : f3 < 8) (ha : a < 32) (hb : b < 32) (hv : v < 8192) : rwordN 66 99 f3 0 0 a b (sgn v 13) = 99 + v / 2048 % 2 * 128 + v / 2 % 16 * 256 + f3 * 4096 + a * 32768 + b * 1048576 + v / 32 % 64 * 33554432 + v / 4096 * 2147483648 := by
  show headN 99 f3 0 a b ||| bitI (sgn v 13) 11 1 * 128 ||| bitI (sgn v 13) 1 4 * 256 ||| bitI (sgn v 13) 5 6 * 33554432 ||| bitI (sgn v 13) 12 1 * 2147483648 = _
  obtain ⟨e1, e2, e3, e4⟩ := bitI_sgn13 v hv
  have b1 : v / 2048 % 2 < 2 := Nat.mod_lt _ (by decide)
  have b2 : v / 2 % 16 < 16 := Nat.mod_lt _ (by decide)
  have b3 : v / 32 % 64 < 64 := Nat.mod_lt _ (by decide)
  rw [e1, e2, e3, e4, head0 99 f3 0 a b (by decide) hf (by decide) ha hb]
  generalize v / 2048 % 2 = p at *
  generalize v / 2 % 16 = e at *
  generalize v / 32 % 64 = g at *
  generalize v / 4096 = t at *
  have s1 := or_mid 99 (f3 * 16 + a * 128 + b * 4096) p 7 1 (by decide) b1
  have s2 := or_mid (99 + p * 128) (f3 + a * 8 + b * 256) e 8 4 (by omega) b2
  rw [show 99 + 0 * 128 + f3 * 4096 + a * 32768 + b * 1048576 = 99 + (f3 * 16 + a * 128 + b * 4096) * 2 ^ (7 + 1) by omega, show p * 128 = p * 2 ^ 7 from rfl, s1,
    show 99 + p * 2 ^ 7 + (f3 * 16 + a * 128 + b * 4096) * 2 ^ (7 + 1) = 99 + p * 128 + (f3 + a * 8 + b * 256) * 2 ^ (8 + 4) by omega, show e * 256 = e * 2 ^ 8 from rfl, s2,
    show g * 33554432 = g * 2 ^ 25 from rfl, or_add _ g 25 (by omega), show t * 2147483648 = t * 2 ^ 31 from rfl, or_add _ t 31 (by omega)]
  omega
/-- an instruction that is encoded is decoded again. -/
def Back (op rd a b n : Int) : Prop := encZ op rd a b n < 4294967296 ∧ decR (encZ op rd a b n) = some ⟨op.toNat, rd.toNat, a.toNat, b.toNat, n⟩
theorem regB_t {r : Int} (h : regB r true = true) : ∃ k : Nat, r = k ∧ k < 32 := by
  simp [regB] at h
  exact ⟨r.toNat, by omega, by omega⟩
theorem regB_f {r : Int} (h : regB r false = true) : r = 0 := by simpa [regB] using h
theorem back_2 (rd a b n : Int) (h : rightI 2 rd a b n = true) : Back 2 rd a b n := by
  have hr := h
  unfold rightI at h
  simp only [Bool.and_eq_true] at h
  obtain ⟨d, rfl, hd⟩ := regB_t (show regB rd true = true from h.1.1.1.2)
  obtain rfl := regB_f (show regB a false = true from h.1.1.2)
  obtain rfl := regB_f (show regB b false = true from h.1.2)
  have hn : -524288 ≤ n ∧ n ≤ 524287 := by have h1 : immB1 85 n = true := h.2; simpa [immB1] using h1
  obtain ⟨v, hv, rfl⟩ := sgn_of20 n hn
  have hz : encZ 2 d 0 0 (sgn v 20) = 23 + d * 128 + v * 4096 := by unfold encZ; rw [if_pos hr]; exact wd_U d v hd hv
  unfold Back
  rw [hz]
  obtain ⟨x, hxe⟩ : ∃ x, 23 + d * 128 + v * 4096 = x := ⟨_, rfl⟩
  rw [hxe]
  have hx : x < 4294967296 := by omega
  obtain ⟨m1, q1, q2⟩ := dg_U d v x hd hv hxe.symm
  have hf : ∀ j, 1 ≤ j → j < 2 → fitsR j x = false := fun j j1 j2 => by
    rcases (show j = 1 by omega) with rfl
    · show fitsB 85 55 0 0 x = false
      simp [fitsB, fitsE, m1]
  have ht : fitsR 2 x = true := by
    show fitsB 85 23 0 0 x = true
    simp [fitsB, fitsE, m1]
  have hd := dec_first (by decide) (by decide) hx hf ht
  refine ⟨hx, hd.trans ?_⟩
  show some (⟨2, x / 128 % 32, 0, 0, sgn (x / 4096) 20⟩ : Ins) = some ⟨2, d, 0, 0, sgn v 20⟩
  rw [q1, q2]
theorem back_3 (rd a b n : Int) (h : rightI 3 rd a b n = true) : Back 3 rd a b n := by
  have hr := h
  unfold rightI at h
  simp only [Bool.and_eq_true] at h
  obtain ⟨d, rfl, hd⟩ := regB_t (show regB rd true = true from h.1.1.1.2)
  obtain rfl := regB_f (show regB a false = true from h.1.1.2)
  obtain rfl := regB_f (show regB b false = true from h.1.2)
  have hn : (-1048576 ≤ n ∧ n ≤ 1048574) ∧ n % 2 = 0 := by have h1 : immB1 74 n = true := h.2; simpa [immB1] using h1
  obtain ⟨v, hv, hv2, rfl⟩ := sgn_of21 n hn.1 hn.2
  have hz : encZ 3 d 0 0 (sgn v 21) = 111 + d * 128 + v / 4096 % 256 * 4096 + v / 2048 % 2 * 1048576 + v / 2 % 1024 * 2097152 + v / 1048576 * 2147483648 := by unfold encZ; rw [if_pos hr]; exact wd_J d v hd hv
  have hvs := dig21 v hv2
  have b1 : v / 4096 % 256 < 256 := Nat.mod_lt _ (by decide)
  have b2 : v / 2048 % 2 < 2 := Nat.mod_lt _ (by decide)
  have b3 : v / 2 % 1024 < 1024 := Nat.mod_lt _ (by decide)
  have b4 : v / 1048576 < 2 := by omega
  unfold Back
  rw [hz]
  generalize v / 4096 % 256 = f at *
  generalize v / 2048 % 2 = p at *
  generalize v / 2 % 1024 = e at *
  generalize v / 1048576 = t at *
  obtain ⟨x, hxe⟩ : ∃ x, 111 + d * 128 + f * 4096 + p * 1048576 + e * 2097152 + t * 2147483648 = x := ⟨_, rfl⟩
  rw [hxe]
  have hx : x < 4294967296 := by omega
  obtain ⟨m1, q1, q2, q3, q4, q5⟩ := dg_J d f p e t x hd b1 b2 b3 b4 hxe.symm
  have hf : ∀ j, 1 ≤ j → j < 3 → fitsR j x = false := fun j j1 j2 => by
    rcases (show j = 1 ∨ j = 2 by omega) with rfl | rfl
    · show fitsB 85 55 0 0 x = false
      simp [fitsB, fitsE, m1]
    · show fitsB 85 23 0 0 x = false
      simp [fitsB, fitsE, m1]
  have ht : fitsR 3 x = true := by
    show fitsB 74 111 0 0 x = true
    simp [fitsB, fitsE, m1]
  have hd := dec_first (by decide) (by decide) hx hf ht
  refine ⟨hx, hd.trans ?_⟩
  show some (⟨3, x / 128 % 32, 0, 0, sgn (x / 2097152 % 1024 * 2 + x / 1048576 % 2 * 2048 + x / 4096 % 256 * 4096 + x / 2147483648 * 1048576) 21⟩ : Ins) = some ⟨3, d, 0, 0, sgn v 21⟩
  rw [q1, q2, q3, q4, q5, ← hvs]
theorem back_4 (rd a b n : Int) (h : rightI 4 rd a b n = true) : Back 4 rd a b n := by
  have hr := h
  unfold rightI at h
  simp only [Bool.and_eq_true] at h
  obtain ⟨d, rfl, hd⟩ := regB_t (show regB rd true = true from h.1.1.1.2)
  obtain ⟨a, rfl, ha⟩ := regB_t (show regB a true = true from h.1.1.2)
  obtain rfl := regB_f (show regB b false = true from h.1.2)
  have hn : -2048 ≤ n ∧ n ≤ 2047 := by have h1 : immB1 73 n = true := h.2; simpa [immB1] using h1
  obtain ⟨v, hv, rfl⟩ := sgn_of12 n hn
  have hz : encZ 4 d a 0 (sgn v 12) = 103 + d * 128 + a * 32768 + v * 1048576 := by unfold encZ; rw [if_pos hr]; exact wd_I d a v hd ha hv
  unfold Back
  rw [hz]
  obtain ⟨x, hxe⟩ : ∃ x, 103 + d * 128 + a * 32768 + v * 1048576 = x := ⟨_, rfl⟩
  rw [hxe]
  have hx : x < 4294967296 := by omega
  obtain ⟨m1, m2, q1, q2, q3⟩ := dg_I d a v x hd ha hv hxe.symm
  have hf : ∀ j, 1 ≤ j → j < 4 → fitsR j x = false := fun j j1 j2 => by
    rcases (show j = 1 ∨ j = 2 ∨ j = 3 by omega) with rfl | rfl | rfl
    · show fitsB 85 55 0 0 x = false
      simp [fitsB, fitsE, m1, m2]
    · show fitsB 85 23 0 0 x = false
      simp [fitsB, fitsE, m1, m2]
    · show fitsB 74 111 0 0 x = false
      simp [fitsB, fitsE, m1, m2]
  have ht : fitsR 4 x = true := by
    show fitsB 73 103 0 0 x = true
    simp [fitsB, fitsE, m1, m2]
  have hd := dec_first (by decide) (by decide) hx hf ht
  refine ⟨hx, hd.trans ?_⟩
  show some (⟨4, x / 128 % 32, x / 32768 % 32, 0, sgn (x / 1048576) 12⟩ : Ins) = some ⟨4, d, a, 0, sgn v 12⟩
  rw [q1, q2, q3]
theorem back_5 (rd a b n : Int) (h : rightI 5 rd a b n = true) : Back 5 rd a b n := by
  have hr := h
  unfold rightI at h
  simp only [Bool.and_eq_true] at h
  obtain rfl := regB_f (show regB rd false = true from h.1.1.1.2)
  obtain ⟨a, rfl, ha⟩ := regB_t (show regB a true = true from h.1.1.2)
  obtain ⟨b, rfl, hb⟩ := regB_t (show regB b true = true from h.1.2)
  have hn : (-4096 ≤ n ∧ n ≤ 4094) ∧ n % 2 = 0 := by have h1 : immB1 66 n = true := h.2; simpa [immB1] using h1
  obtain ⟨v, hv, hv2, rfl⟩ := sgn_of13 n hn.1 hn.2
  have hz : encZ 5 0 a b (sgn v 13) = 99 + v / 2048 % 2 * 128 + v / 2 % 16 * 256 + 0 * 4096 + a * 32768 + b * 1048576 + v / 32 % 64 * 33554432 + v / 4096 * 2147483648 := by unfold encZ; rw [if_pos hr]; exact wd_B 0 a b v (by decide) ha hb hv
  have hvs := dig13 v hv2
  have b1 : v / 2048 % 2 < 2 := Nat.mod_lt _ (by decide)
  have b2 : v / 2 % 16 < 16 := Nat.mod_lt _ (by decide)
  have b3 : v / 32 % 64 < 64 := Nat.mod_lt _ (by decide)
  have b4 : v / 4096 < 2 := by omega
  unfold Back
  rw [hz]
  generalize v / 2048 % 2 = p at *
  generalize v / 2 % 16 = e at *
  generalize v / 32 % 64 = g at *
  generalize v / 4096 = t at *
  obtain ⟨x, hxe⟩ : ∃ x, 99 + p * 128 + e * 256 + 0 * 4096 + a * 32768 + b * 1048576 + g * 33554432 + t * 2147483648 = x := ⟨_, rfl⟩
  rw [hxe]
  have hx : x < 4294967296 := by omega
  obtain ⟨m1, m2, q1, q2, q3, q4, q5, q6⟩ := dg_B p e 0 a b g t x b1 b2 (by decide) ha hb b3 b4 hxe.symm
  have hf : ∀ j, 1 ≤ j → j < 5 → fitsR j x = false := fun j j1 j2 => by
    rcases (show j = 1 ∨ j = 2 ∨ j = 3 ∨ j = 4 by omega) with rfl | rfl | rfl | rfl
    · show fitsB 85 55 0 0 x = false
      simp [fitsB, fitsE, m1, m2]
    · show fitsB 85 23 0 0 x = false
      simp [fitsB, fitsE, m1, m2]
    · show fitsB 74 111 0 0 x = false
      simp [fitsB, fitsE, m1, m2]
    · show fitsB 73 103 0 0 x = false
      simp [fitsB, fitsE, m1, m2]
  have ht : fitsR 5 x = true := by
    show fitsB 66 99 0 0 x = true
    simp [fitsB, fitsE, m1, m2]
  have hd := dec_first (by decide) (by decide) hx hf ht
  refine ⟨hx, hd.trans ?_⟩
  show some (⟨5, 0, x / 32768 % 32, x / 1048576 % 32, sgn (x / 256 % 16 * 2 + x / 33554432 % 64 * 32 + x / 128 % 2 * 2048 + x / 2147483648 * 4096) 13⟩ : Ins) = some ⟨5, 0, a, b, sgn v 13⟩
  rw [q1, q2, q3, q4, q5, q6, ← hvs]
theorem back_6 (rd a b n : Int) (h : rightI 6 rd a b n = true) : Back 6 rd a b n := by
  have hr := h
  unfold rightI at h
  simp only [Bool.and_eq_true] at h
  obtain rfl := regB_f (show regB rd false = true from h.1.1.1.2)
  obtain ⟨a, rfl, ha⟩ := regB_t (show regB a true = true from h.1.1.2)
  obtain ⟨b, rfl, hb⟩ := regB_t (show regB b true = true from h.1.2)
  have hn : (-4096 ≤ n ∧ n ≤ 4094) ∧ n % 2 = 0 := by have h1 : immB1 66 n = true := h.2; simpa [immB1] using h1
  obtain ⟨v, hv, hv2, rfl⟩ := sgn_of13 n hn.1 hn.2
  have hz : encZ 6 0 a b (sgn v 13) = 99 + v / 2048 % 2 * 128 + v / 2 % 16 * 256 + 1 * 4096 + a * 32768 + b * 1048576 + v / 32 % 64 * 33554432 + v / 4096 * 2147483648 := by unfold encZ; rw [if_pos hr]; exact wd_B 1 a b v (by decide) ha hb hv
  have hvs := dig13 v hv2
  have b1 : v / 2048 % 2 < 2 := Nat.mod_lt _ (by decide)
  have b2 : v / 2 % 16 < 16 := Nat.mod_lt _ (by decide)
  have b3 : v / 32 % 64 < 64 := Nat.mod_lt _ (by decide)
  have b4 : v / 4096 < 2 := by omega
  unfold Back
  rw [hz]
  generalize v / 2048 % 2 = p at *
  generalize v / 2 % 16 = e at *
  generalize v / 32 % 64 = g at *
  generalize v / 4096 = t at *
  obtain ⟨x, hxe⟩ : ∃ x, 99 + p * 128 + e * 256 + 1 * 4096 + a * 32768 + b * 1048576 + g * 33554432 + t * 2147483648 = x := ⟨_, rfl⟩
  rw [hxe]
  have hx : x < 4294967296 := by omega
  obtain ⟨m1, m2, q1, q2, q3, q4, q5, q6⟩ := dg_B p e 1 a b g t x b1 b2 (by decide) ha hb b3 b4 hxe.symm
  have hf : ∀ j, 1 ≤ j → j < 6 → fitsR j x = false := fun j j1 j2 => by
    rcases (show j = 1 ∨ j = 2 ∨ j = 3 ∨ j = 4 ∨ j = 5 by omega) with rfl | rfl | rfl | rfl | rfl
    · show fitsB 85 55 0 0 x = false
      simp [fitsB, fitsE, m1, m2]
    · show fitsB 85 23 0 0 x = false
      simp [fitsB, fitsE, m1, m2]
    · show fitsB 74 111 0 0 x = false
      simp [fitsB, fitsE, m1, m2]
    · show fitsB 73 103 0 0 x = false
      simp [fitsB, fitsE, m1, m2]
    · show fitsB 66 99 0 0 x = false
      simp [fitsB, fitsE, m1, m2]
  have ht : fitsR 6 x = true := by
    show fitsB 66 99 1 0 x = true
    simp [fitsB, fitsE, m1, m2]
  have hd := dec_first (by decide) (by decide) hx hf ht
  refine ⟨hx, hd.trans ?_⟩
  show some (⟨6, 0, x / 32768 % 32, x / 1048576 % 32, sgn (x / 256 % 16 * 2 + x / 33554432 % 64 * 32 + x / 128 % 2 * 2048 + x / 2147483648 * 4096) 13⟩ : Ins) = some ⟨6, 0, a, b, sgn v 13⟩
  rw [q1, q2, q3, q4, q5, q6, ← hvs]
theorem back_7 (rd a b n : Int) (h : rightI 7 rd a b n = true) : Back 7 rd a b n := by
  have hr := h
  unfold rightI at h
  simp only [Bool.and_eq_true] at h
  obtain rfl := regB_f (show regB rd false = true from h.1.1.1.2)
  obtain ⟨a, rfl, ha⟩ := regB_t (show regB a true = true from h.1.1.2)
  obtain ⟨b, rfl, hb⟩ := regB_t (show regB b true = true from h.1.2)
  have hn : (-4096 ≤ n ∧ n ≤ 4094) ∧ n % 2 = 0 := by have h1 : immB1 66 n = true := h.2; simpa [immB1] using h1
  obtain ⟨v, hv, hv2, rfl⟩ := sgn_of13 n hn.1 hn.2
  have hz : encZ 7 0 a b (sgn v 13) = 99 + v / 2048 % 2 * 128 + v / 2 % 16 * 256 + 4 * 4096 + a * 32768 + b * 1048576 + v / 32 % 64 * 33554432 + v / 4096 * 2147483648 := by unfold encZ; rw [if_pos hr]; exact wd_B 4 a b v (by decide) ha hb hv
  have hvs := dig13 v hv2
  have b1 : v / 2048 % 2 < 2 := Nat.mod_lt _ (by decide)
  have b2 : v / 2 % 16 < 16 := Nat.mod_lt _ (by decide)
  have b3 : v / 32 % 64 < 64 := Nat.mod_lt _ (by decide)
  have b4 : v / 4096 < 2 := by omega
  unfold Back
  rw [hz]
  generalize v / 2048 % 2 = p at *
  generalize v / 2 % 16 = e at *
  generalize v / 32 % 64 = g at *
  generalize v / 4096 = t at *
  obtain ⟨x, hxe⟩ : ∃ x, 99 + p * 128 + e * 256 + 4 * 4096 + a * 32768 + b * 1048576 + g * 33554432 + t * 2147483648 = x := ⟨_, rfl⟩
  rw [hxe]
  have hx : x < 4294967296 := by omega
  obtain ⟨m1, m2, q1, q2, q3, q4, q5, q6⟩ := dg_B p e 4 a b g t x b1 b2 (by decide) ha hb b3 b4 hxe.symm
  have hf : ∀ j, 1 ≤ j → j < 7 → fitsR j x = false := fun j j1 j2 => by
    rcases (show j = 1 ∨ j = 2 ∨ j = 3 ∨ j = 4 ∨ j = 5 ∨ j = 6 by omega) with rfl | rfl | rfl | rfl | rfl | rfl
    · show fitsB 85 55 0 0 x = false
      simp [fitsB, fitsE, m1, m2]
    · show fitsB 85 23 0 0 x = false
      simp [fitsB, fitsE, m1, m2]
    · show fitsB 74 111 0 0 x = false
      simp [fitsB, fitsE, m1, m2]
    · show fitsB 73 103 0 0 x = false
      simp [fitsB, fitsE, m1, m2]
    · show fitsB 66 99 0 0 x = false
      simp [fitsB, fitsE, m1, m2]
    · show fitsB 66 99 1 0 x = false
      simp [fitsB, fitsE, m1, m2]
  have ht : fitsR 7 x = true := by
    show fitsB 66 99 4 0 x = true
    simp [fitsB, fitsE, m1, m2]
  have hd := dec_first (by decide) (by decide) hx hf ht
  refine ⟨hx, hd.trans ?_⟩
  show some (⟨7, 0, x / 32768 % 32, x / 1048576 % 32, sgn (x / 256 % 16 * 2 + x / 33554432 % 64 * 32 + x / 128 % 2 * 2048 + x / 2147483648 * 4096) 13⟩ : Ins) = some ⟨7, 0, a, b, sgn v 13⟩
  rw [q1, q2, q3, q4, q5, q6, ← hvs]
theorem back_8 (rd a b n : Int) (h : rightI 8 rd a b n = true) : Back 8 rd a b n := by
  have hr := h
  unfold rightI at h
  simp only [Bool.and_eq_true] at h
  obtain rfl := regB_f (show regB rd false = true from h.1.1.1.2)
  obtain ⟨a, rfl, ha⟩ := regB_t (show regB a true = true from h.1.1.2)
  obtain ⟨b, rfl, hb⟩ := regB_t (show regB b true = true from h.1.2)
  have hn : (-4096 ≤ n ∧ n ≤ 4094) ∧ n % 2 = 0 := by have h1 : immB1 66 n = true := h.2; simpa [immB1] using h1
  obtain ⟨v, hv, hv2, rfl⟩ := sgn_of13 n hn.1 hn.2
  have hz : encZ 8 0 a b (sgn v 13) = 99 + v / 2048 % 2 * 128 + v / 2 % 16 * 256 + 5 * 4096 + a * 32768 + b * 1048576 + v / 32 % 64 * 33554432 + v / 4096 * 2147483648 := by unfold encZ; rw [if_pos hr]; exact wd_B 5 a b v (by decide) ha hb hv
  have hvs := dig13 v hv2
  have b1 : v / 2048 % 2 < 2 := Nat.mod_lt _ (by decide)
  have b2 : v / 2 % 16 < 16 := Nat.mod_lt _ (by decide)
  have b3 : v / 32 % 64 < 64 := Nat.mod_lt _ (by decide)
  have b4 : v / 4096 < 2 := by omega
  unfold Back
  rw [hz]
  generalize v / 2048 % 2 = p at *
  generalize v / 2 % 16 = e at *
  generalize v / 32 % 64 = g at *
  generalize v / 4096 = t at *
  obtain ⟨x, hxe⟩ : ∃ x, 99 + p * 128 + e * 256 + 5 * 4096 + a * 32768 + b * 1048576 + g * 33554432 + t * 2147483648 = x := ⟨_, rfl⟩
  rw [hxe]
  have hx : x < 4294967296 := by omega
  obtain ⟨m1, m2, q1, q2, q3, q4, q5, q6⟩ := dg_B p e 5 a b g t x b1 b2 (by decide) ha hb b3 b4 hxe.symm
  have hf : ∀ j, 1 ≤ j → j < 8 → fitsR j x = false := fun j j1 j2 => by
    rcases (show j = 1 ∨ j = 2 ∨ j = 3 ∨ j = 4 ∨ j = 5 ∨ j = 6 ∨ j = 7 by omega) with rfl | rfl | rfl | rfl | rfl | rfl | rfl
    · show fitsB 85 55 0 0 x = false
      simp [fitsB, fitsE, m1, m2]
    · show fitsB 85 23 0 0 x = false
      simp [fitsB, fitsE, m1, m2]
    · show fitsB 74 111 0 0 x = false
      simp [fitsB, fitsE, m1, m2]
    · show fitsB 73 103 0 0 x = false
      simp [fitsB, fitsE, m1, m2]
    · show fitsB 66 99 0 0 x = false
      simp [fitsB, fitsE, m1, m2]
    · show fitsB 66 99 1 0 x = false
      simp [fitsB, fitsE, m1, m2]
    · show fitsB 66 99 4 0 x = false
      simp [fitsB, fitsE, m1, m2]
  have ht : fitsR 8 x = true := by
    show fitsB 66 99 5 0 x = true
    simp [fitsB, fitsE, m1, m2]
  have hd := dec_first (by decide) (by decide) hx hf ht
  refine ⟨hx, hd.trans ?_⟩
  show some (⟨8, 0, x / 32768 % 32, x / 1048576 % 32, sgn (x / 256 % 16 * 2 + x / 33554432 % 64 * 32 + x / 128 % 2 * 2048 + x / 2147483648 * 4096) 13⟩ : Ins) = some ⟨8, 0, a, b, sgn v 13⟩
  rw [q1, q2, q3, q4, q5, q6, ← hvs]
theorem back_9 (rd a b n : Int) (h : rightI 9 rd a b n = true) : Back 9 rd a b n := by
  have hr := h
  unfold rightI at h
  simp only [Bool.and_eq_true] at h
  obtain rfl := regB_f (show regB rd false = true from h.1.1.1.2)
  obtain ⟨a, rfl, ha⟩ := regB_t (show regB a true = true from h.1.1.2)
  obtain ⟨b, rfl, hb⟩ := regB_t (show regB b true = true from h.1.2)
  have hn : (-4096 ≤ n ∧ n ≤ 4094) ∧ n % 2 = 0 := by have h1 : immB1 66 n = true := h.2; simpa [immB1] using h1
  obtain ⟨v, hv, hv2, rfl⟩ := sgn_of13 n hn.1 hn.2
  have hz : encZ 9 0 a b (sgn v 13) = 99 + v / 2048 % 2 * 128 + v / 2 % 16 * 256 + 6 * 4096 + a * 32768 + b * 1048576 + v / 32 % 64 * 33554432 + v / 4096 * 2147483648 := by unfold encZ; rw [if_pos hr]; exact wd_B 6 a b v (by decide) ha hb hv
  have hvs := dig13 v hv2
  have b1 : v / 2048 % 2 < 2 := Nat.mod_lt _ (by decide)
  have b2 : v / 2 % 16 < 16 := Nat.mod_lt _ (by decide)
  have b3 : v / 32 % 64 < 64 := Nat.mod_lt _ (by decide)
  have b4 : v / 4096 < 2 := by omega
  unfold Back
  rw [hz]
  generalize v / 2048 % 2 = p at *
  generalize v / 2 % 16 = e at *
  generalize v / 32 % 64 = g at *
  generalize v / 4096 = t at *
  obtain ⟨x, hxe⟩ : ∃ x, 99 + p * 128 + e * 256 + 6 * 4096 + a * 32768 + b * 1048576 + g * 33554432 + t * 2147483648 = x := ⟨_, rfl⟩
  rw [hxe]
  have hx : x < 4294967296 := by omega
  obtain ⟨m1, m2, q1, q2, q3, q4, q5, q6⟩ := dg_B p e 6 a b g t x b1 b2 (by decide) ha hb b3 b4 hxe.symm
  have hf : ∀ j, 1 ≤ j → j < 9 → fitsR j x = false := fun j j1 j2 => by
    rcases (show j = 1 ∨ j = 2 ∨ j = 3 ∨ j = 4 ∨ j = 5 ∨ j = 6 ∨ j = 7 ∨ j = 8 by omega) with rfl | rfl | rfl | rfl | rfl | rfl | rfl | rfl
    · show fitsB 85 55 0 0 x = false
      simp [fitsB, fitsE, m1, m2]
    · show fitsB 85 23 0 0 x = false
      simp [fitsB, fitsE, m1, m2]
    · show fitsB 74 111 0 0 x = false
      simp [fitsB, fitsE, m1, m2]
    · show fitsB 73 103 0 0 x = false
      simp [fitsB, fitsE, m1, m2]
    · show fitsB 66 99 0 0 x = false
      simp [fitsB, fitsE, m1, m2]
    · show fitsB 66 99 1 0 x = false
      simp [fitsB, fitsE, m1, m2]
    · show fitsB 66 99 4 0 x = false
      simp [fitsB, fitsE, m1, m2]
    · show fitsB 66 99 5 0 x = false
      simp [fitsB, fitsE, m1, m2]
  have ht : fitsR 9 x = true := by
    show fitsB 66 99 6 0 x = true
    simp [fitsB, fitsE, m1, m2]
  have hd := dec_first (by decide) (by decide) hx hf ht
  refine ⟨hx, hd.trans ?_⟩
  show some (⟨9, 0, x / 32768 % 32, x / 1048576 % 32, sgn (x / 256 % 16 * 2 + x / 33554432 % 64 * 32 + x / 128 % 2 * 2048 + x / 2147483648 * 4096) 13⟩ : Ins) = some ⟨9, 0, a, b, sgn v 13⟩
  rw [q1, q2, q3, q4, q5, q6, ← hvs]
theorem back_10 (rd a b n : Int) (h : rightI 10 rd a b n = true) : Back 10 rd a b n := by
  have hr := h
  unfold rightI at h
  simp only [Bool.and_eq_true] at h
  obtain rfl := regB_f (show regB rd false = true from h.1.1.1.2)
  obtain ⟨a, rfl, ha⟩ := regB_t (show regB a true = true from h.1.1.2)
  obtain ⟨b, rfl, hb⟩ := regB_t (show regB b true = true from h.1.2)
  have hn : (-4096 ≤ n ∧ n ≤ 4094) ∧ n % 2 = 0 := by have h1 : immB1 66 n = true := h.2; simpa [immB1] using h1
  obtain ⟨v, hv, hv2, rfl⟩ := sgn_of13 n hn.1 hn.2
  have hz : encZ 10 0 a b (sgn v 13) = 99 + v / 2048 % 2 * 128 + v / 2 % 16 * 256 + 7 * 4096 + a * 32768 + b * 1048576 + v / 32 % 64 * 33554432 + v / 4096 * 2147483648 := by unfold encZ; rw [if_pos hr]; exact wd_B 7 a b v (by decide) ha hb hv
  have hvs := dig13 v hv2
  have b1 : v / 2048 % 2 < 2 := Nat.mod_lt _ (by decide)
  have b2 : v / 2 % 16 < 16 := Nat.mod_lt _ (by decide)
  have b3 : v / 32 % 64 < 64 := Nat.mod_lt _ (by decide)
  have b4 : v / 4096 < 2 := by omega
  unfold Back
  rw [hz]
  generalize v / 2048 % 2 = p at *
  generalize v / 2 % 16 = e at *
  generalize v / 32 % 64 = g at *
  generalize v / 4096 = t at *
  obtain ⟨x, hxe⟩ : ∃ x, 99 + p * 128 + e * 256 + 7 * 4096 + a * 32768 + b * 1048576 + g * 33554432 + t * 2147483648 = x := ⟨_, rfl⟩
  rw [hxe]
  have hx : x < 4294967296 := by omega
  obtain ⟨m1, m2, q1, q2, q3, q4, q5, q6⟩ := dg_B p e 7 a b g t x b1 b2 (by decide) ha hb b3 b4 hxe.symm
  have hf : ∀ j, 1 ≤ j → j < 10 → fitsR j x = false := fun j j1 j2 => by
    rcases (show j = 1 ∨ j = 2 ∨ j = 3 ∨ j = 4 ∨ j = 5 ∨ j = 6 ∨ j = 7 ∨ j = 8 ∨ j = 9 by omega) with rfl | rfl | rfl | rfl | rfl | rfl | rfl | rfl | rfl
    · show fitsB 85 55 0 0 x = false
      simp [fitsB, fitsE, m1, m2]
    · show fitsB 85 23 0 0 x = false
      simp [fitsB, fitsE, m1, m2]
    · show fitsB 74 111 0 0 x = false
      simp [fitsB, fitsE, m1, m2]
    · show fitsB 73 103 0 0 x = false
      simp [fitsB, fitsE, m1, m2]
    · show fitsB 66 99 0 0 x = false
      simp [fitsB, fitsE, m1, m2]
    · show fitsB 66 99 1 0 x = false
      simp [fitsB, fitsE, m1, m2]
    · show fitsB 66 99 4 0 x = false
      simp [fitsB, fitsE, m1, m2]
    · show fitsB 66 99 5 0 x = false
      simp [fitsB, fitsE, m1, m2]
    · show fitsB 66 99 6 0 x = false
      simp [fitsB, fitsE, m1, m2]
  have ht : fitsR 10 x = true := by
    show fitsB 66 99 7 0 x = true
    simp [fitsB, fitsE, m1, m2]
  have hd := dec_first (by decide) (by decide) hx hf ht
  refine ⟨hx, hd.trans ?_⟩
  show some (⟨10, 0, x / 32768 % 32, x / 1048576 % 32, sgn (x / 256 % 16 * 2 + x / 33554432 % 64 * 32 + x / 128 % 2 * 2048 + x / 2147483648 * 4096) 13⟩ : Ins) = some ⟨10, 0, a, b, sgn v 13⟩
  rw [q1, q2, q3, q4, q5, q6, ← hvs]
theorem back_br (op rd a b n : Int) (ho : 5 ≤ op ∧ op ≤ 10) (h : rightI op rd a b n = true) : Back op rd a b n := by
  rcases (show op = 5 ∨ op = 6 ∨ op = 7 ∨ op = 8 ∨ op = 9 ∨ op = 10 by omega) with rfl | rfl | rfl | rfl | rfl | rfl
  · exact back_5 rd a b n h
  · exact back_6 rd a b n h
  · exact back_7 rd a b n h
  · exact back_8 rd a b n h
  · exact back_9 rd a b n h
  · exact back_10 rd a b n h
end Go.Pat

/- asm.Assemble: where each item's bytes lie in the text, and how long they are (plain). -/
namespace Go.Pat
open Go Go.RowKit Go.Proofs
/-- the address of an item. -/
def adr : Nat → List (It × Int) → Nat → Nat
  | at_, _, 0 => at_
  | at_, [], _ + 1 => at_
  | at_, x :: r, k + 1 => adr (wrN ((at_ : Int) + x.2)) r k
def block (F : Names) (x : It) (s : Int) (at_ : Nat) : List UInt8 := insB (codeM x s (distM F x.s at_)).1 ++ rawM x
def blocks (F : Names) : Nat → List (It × Int) → List (List UInt8)
  | _, [] => []
  | at_, x :: r => block F x.1 x.2 at_ :: blocks F (wrN ((at_ : Int) + x.2)) r
theorem blocks_length (F : Names) (at_ : Nat) (xs : List (It × Int)) : (blocks F at_ xs).length = xs.length := by
  induction xs generalizing at_ with
  | nil => rfl
  | cons x r ih => simp [blocks, ih]
theorem blocks_get (F : Names) (at_ : Nat) (xs : List (It × Int)) (k : Nat) (hk : k < xs.length) : (blocks F at_ xs)[k]? = some (block F xs[k].1 xs[k].2 (adr at_ xs k)) := by
  induction xs generalizing at_ k with
  | nil => simp at hk
  | cons x r ih =>
    cases k with
    | zero => rfl
    | succ k =>
      rw [blocks, List.getElem?_cons_succ, ih _ k (by simpa using hk)]
      rfl
theorem bytM_ok {F : Names} {n at_ : Nat} {xs : List (It × Int)} {out T : List UInt8} (h : bytM F n at_ xs out = .inr T) :
    T = out ++ (blocks F at_ xs).flatten ∧ ∀ k (hk : k < xs.length), (codeM xs[k].1 xs[k].2 (distM F xs[k].1.s (adr at_ xs k))).2 = true := by
  induction xs generalizing n at_ out with
  | nil =>
    obtain rfl := Sum.inr.inj h
    exact ⟨by simp [blocks], fun k hk => absurd hk (by simp)⟩
  | cons x r ih =>
    rw [bytM] at h
    by_cases hc : (codeM x.1 x.2 (distM F x.1.s at_)).2 = true
    · rw [if_pos hc] at h
      obtain ⟨h1, h2⟩ := ih h
      refine ⟨by rw [h1, blocks, List.flatten_cons, block, List.append_assoc], fun k hk => ?_⟩
      cases k with
      | zero => exact hc
      | succ k => exact h2 k (by simpa using hk)
    · rw [if_neg hc] at h
      cases h
/-- an item's size is one of its kind's. -/
def shapeOK (x : It) (s : Int) : Prop := (x.k = 5 ∨ x.k = 6 → s = 4 ∨ s = 8) ∧ (x.k = 7 → s = 4 ∨ s = 8 ∨ s = 12) ∧ (¬ (x.k = 5 ∨ x.k = 6 ∨ x.k = 7) → s = leastM x)
theorem shape_least (x : It) : shapeOK x (leastM x) := by
  refine ⟨fun h => .inl ?_, fun h => .inl ?_, fun _ => rfl⟩
  · unfold leastM
    rcases h with h | h <;> simp [h]
  · unfold leastM
    simp [h]
theorem shape_next (x : It) (s d : Int) (h : shapeOK x s) : shapeOK x (if fitsM x.k s d then s else s + 4) := by
  cases hf : fitsM x.k s d with
  | true => simpa using h
  | false =>
    simp only [Bool.false_eq_true, if_false]
    obtain ⟨_, hr⟩ := room_step _ _ _ hf
    have hk : x.k = 5 ∨ x.k = 6 ∨ x.k = 7 := by
      apply Classical.byContradiction
      intro c
      have h5 : ¬ x.k = 5 := fun e => c (.inl e)
      have h6 : ¬ x.k = 6 := fun e => c (.inr (.inl e))
      have h7 : ¬ x.k = 7 := fun e => c (.inr (.inr e))
      simp [roomI, h5, h6, h7] at hr
    refine ⟨fun h5 => ?_, fun h7 => ?_, fun c => absurd hk c⟩
    · rcases h.1 h5 with rfl | rfl
      · exact .inr rfl
      · simp [roomI, h5] at hr
    · rcases h.2.1 h7 with rfl | rfl | rfl
      · exact .inr (.inl rfl)
      · exact .inr (.inr rfl)
      · simp [roomI, h7] at hr
theorem nexts_shape (F : Names) (xs : List It) (S : List Int) (a : Nat) (hl : S.length = xs.length) (h : ∀ p ∈ xs.zip S, shapeOK p.1 p.2) : ∀ p ∈ xs.zip (nexts F a (xs.zip S)), shapeOK p.1 p.2 := by
  induction xs generalizing S a with
  | nil => intro p hp; cases hp
  | cons x xs ih =>
    cases S with
    | nil => cases hl
    | cons s r =>
      intro p hp
      simp only [List.zip_cons_cons, nexts] at hp
      rcases List.mem_cons.1 hp with rfl | hp
      · exact shape_next x s _ (h (x, s) (by simp))
      · exact ih r _ (by simpa using hl) (fun q hq => h q (by simp only [List.zip_cons_cons]; exact List.mem_cons_of_mem _ hq)) p hp
theorem rounds_shape (text data : List It) (at_ dat : Nat) (F : Names) (j : Nat) : ∀ p ∈ text.zip (roundsM text data at_ dat F j), shapeOK p.1 p.2 := by
  induction j with
  | zero =>
    intro p hp
    obtain ⟨i, hi, rfl⟩ := List.mem_iff_getElem.1 hp
    simp only [roundsM, List.getElem_zip, List.getElem_map]
    exact shape_least _
  | succ j ih => exact nexts_shape _ _ _ _ (roundsM_length _ _ _ _ _ _) ih
theorem nexts_fix {F : Names} {xs : List It} {S : List Int} {a : Nat} (hl : S.length = xs.length) (h : nexts F a (xs.zip S) = S) : ∀ k (hk : k < xs.length), fitsM xs[k].k (S[k]'(by omega)) (distM F xs[k].s (adr a (xs.zip S) k)) = true := by
  induction xs generalizing S a with
  | nil => intro k hk; simp at hk
  | cons x xs ih =>
    cases S with
    | nil => cases hl
    | cons s r =>
      simp only [List.zip_cons_cons, nexts, List.cons.injEq] at h
      intro k hk
      cases k with
      | zero =>
        simp only [List.getElem_cons_zero, adr]
        cases hf : fitsM x.k s (distM F x.s a) with
        | true => rfl
        | false =>
          have h1 := h.1
          rw [hf] at h1
          simp only [Bool.false_eq_true, if_false] at h1
          omega
      | succ k =>
        simp only [List.getElem_cons_succ, List.zip_cons_cons, adr]
        exact ih (by simpa using hl) h.2 k (by simpa using hk)
theorem itemE_kind {x : It} {d : Bool} (h : itemE x d = 0) : 1 ≤ x.k ∧ x.k ≤ 9 := by
  have h1 := (itemE_ok h).1
  unfold okI at h1
  apply Classical.byContradiction
  intro c
  have a1 : ¬ x.k = 1 := by omega
  have a2 : ¬ x.k = 2 := by omega
  have a3 : ¬ x.k = 3 := by omega
  have a4 : ¬ x.k = 4 := by omega
  have a5 : ¬ x.k = 5 := by omega
  have a6 : ¬ x.k = 6 := by omega
  have a7 : ¬ x.k = 7 := by omega
  have a8 : ¬ x.k = 8 := by omega
  have a9 : ¬ x.k = 9 := by omega
  simp [a1, a2, a3, a4, a5, a6, a7, a8, a9] at h1
theorem block_len {F : Names} {x : It} {s : Int} {at_ : Nat} (hs : shapeOK x s) (hi : itemE x false = 0) (hc : (codeM x s (distM F x.s at_)).2 = true) : ((block F x s at_).length : Int) = s := by
  unfold block
  rw [List.length_append, insB_length]
  generalize distM F x.s at_ = d at *
  obtain ⟨k1, k2⟩ := itemE_kind hi
  have h9 := fun h9 => okI_9 (itemE_ok hi).1 h9
  rcases (show x.k = 1 ∨ x.k = 2 ∨ x.k = 3 ∨ x.k = 4 ∨ x.k = 5 ∨ x.k = 6 ∨ x.k = 7 ∨ x.k = 8 ∨ x.k = 9 by omega) with hk | hk | hk | hk | hk | hk | hk | hk | hk
  · have := hs.2.2 (by omega)
    rw [this]
    simp [codeM, rawM, leastM, hk]
  · have := hs.2.2 (by omega)
    rw [this]
    simp [codeM, rawM, leastM, hk]
  · have := hs.2.2 (by omega)
    rw [this]
    simp [codeM, rawM, leastM, hk]
  · have := hs.2.2 (by omega)
    rw [this]
    simp [codeM, rawM, leastM, hk]
  · have ho : d % 2 = 0 := by
      apply Classical.byContradiction
      intro c
      simp [codeM, hk, c] at hc
    rcases hs.1 (.inl hk) with rfl | rfl
    · simp [codeM, rawM, hk, ho]
    · simp [codeM, rawM, jumpM, hk, ho]
  · have ho : d % 2 = 0 := by
      apply Classical.byContradiction
      intro c
      simp [codeM, hk, c] at hc
    rcases hs.1 (.inr hk) with rfl | rfl
    · simp [codeM, rawM, hk, ho]
    · simp [codeM, rawM, jumpM, hk, ho]
  · have ho : d % 2 = 0 := by
      apply Classical.byContradiction
      intro c
      simp [codeM, hk, c] at hc
    rcases hs.2.1 hk with rfl | rfl | rfl
    · simp [codeM, rawM, hk, ho]
    · simp [codeM, rawM, hk, ho]
    · simp [codeM, rawM, jumpM, hk, ho]
  · have := hs.2.2 (by omega)
    rw [this]
    simp [codeM, rawM, leastM, hk, le_length]
  · have := hs.2.2 (by omega)
    have h0 := h9 hk
    rw [this]
    simp [codeM, rawM, leastM, hk]
    omega
/-- where an item's bytes begin. -/
def offs (F : Names) (at_ : Nat) (xs : List (It × Int)) (k : Nat) : Nat := ((blocks F at_ xs).take k).flatten.length
theorem offs_succ (F : Names) (at_ : Nat) (xs : List (It × Int)) (k : Nat) (hk : k < xs.length) : offs F at_ xs (k + 1) = offs F at_ xs k + (block F xs[k].1 xs[k].2 (adr at_ xs k)).length := by
  unfold offs
  rw [List.take_add_one, blocks_get F at_ xs k hk]
  simp
theorem at_block (F : Names) (at_ : Nat) (xs : List (It × Int)) (k : Nat) (hk : k < xs.length) (r : Nat) (hr : r < (block F xs[k].1 xs[k].2 (adr at_ xs k)).length) :
    (blocks F at_ xs).flatten[offs F at_ xs k + r]? = (block F xs[k].1 xs[k].2 (adr at_ xs k))[r]? := by
  have h1 : (blocks F at_ xs).flatten = ((blocks F at_ xs).take k).flatten ++ ((blocks F at_ xs).drop k).flatten := by rw [← List.flatten_append, List.take_append_drop]
  have hb := blocks_get F at_ xs k hk
  have hl : k < (blocks F at_ xs).length := by rw [blocks_length]; exact hk
  have h2 : (blocks F at_ xs).drop k = block F xs[k].1 xs[k].2 (adr at_ xs k) :: (blocks F at_ xs).drop (k + 1) := by
    rw [List.drop_eq_getElem_cons hl]
    rw [List.getElem?_eq_getElem hl] at hb
    rw [Option.some.inj hb]
  rw [h1, h2, List.flatten_cons, List.getElem?_append_right (by unfold offs; omega)]
  unfold offs
  rw [Nat.add_sub_cancel_left, List.getElem?_append_left hr]
end Go.Pat

/- asm.Assemble: the last instructions of a jump, a call, a branch lead to the label (plain). -/
namespace Go.Pat
open Go Go.RowKit Go.Proofs
/-- the last instruction, or the last two, lead as far as d. -/
def LeadsA (x : It) (s d : Int) (c : List In) : Prop := ∃ pre l, c = pre ++ [l] ∧ (l.op = 3 ∨ (5 ≤ l.op ∧ l.op ≤ 10)) ∧ rightI l.op l.rd l.a l.b l.n = true ∧ (x.k = 6 → l.rd = x.rd) ∧ (s - 4 + l.n - d) % 18446744073709551616 = 0
def LeadsB (x : It) (s d : Int) (c : List In) : Prop := ∃ pre f l, c = pre ++ [f, l] ∧ f.op = 2 ∧ l.op = 4 ∧ f.rd = l.a ∧ rightI f.op f.rd f.a f.b f.n = true ∧ rightI l.op l.rd l.a l.b l.n = true ∧ (x.k = 6 → l.rd = x.rd) ∧ (s - 8 + f.n * 4096 + l.n - d) % 18446744073709551616 = 0
theorem far_parts {d : Int} (hd : -9223372036854775808 ≤ d ∧ d < 9223372036854775808) (h : farB d = true) : (-524288 ≤ farH d ∧ farH d ≤ 524287) ∧ (-2048 ≤ restI d ∧ restI d ≤ 2047) ∧ farH d * 4096 + restI d = d := by
  unfold farB at h
  simp only [Bool.and_eq_true, decide_eq_true_eq] at h
  have hw : wrap64 (d + 2048) = d + 2048 := by
    obtain ⟨h1, h2⟩ := h
    unfold farH at h1 h2
    unfold wrap64 at *
    omega
  have hf : farH d = (d + 2048) / 4096 := by unfold farH; rw [hw]
  have hr : restI d = d - (d + 2048) / 4096 * 4096 := by
    unfold restI
    rw [hf] at h ⊢
    unfold wrap64
    omega
  rw [hr]
  rw [hf] at h ⊢
  omega
theorem right_jal {rd n : Int} (h1 : 0 ≤ rd ∧ rd ≤ 31) (h2 : -1048576 ≤ n ∧ n ≤ 1048574) (h3 : n % 2 = 0) : rightI 3 rd 0 0 n = true := by
  show (((((((formR 3).1 : Int) != 0) && regB rd (hasD1 (formR 3).1)) && regB 0 (has11 (formR 3).1)) && regB 0 (has21 (formR 3).1)) && immB1 (formR 3).1 n) = true
  have e : formR 3 = (74, 111, 0, 0) := rfl
  rw [e]
  simp [regB, hasD1, has11, has21, immB1, h1, h2, h3]
theorem right_auipc {rd n : Int} (h1 : 0 ≤ rd ∧ rd ≤ 31) (h2 : -524288 ≤ n ∧ n ≤ 524287) : rightI 2 rd 0 0 n = true := by
  show (((((((formR 2).1 : Int) != 0) && regB rd (hasD1 (formR 2).1)) && regB 0 (has11 (formR 2).1)) && regB 0 (has21 (formR 2).1)) && immB1 (formR 2).1 n) = true
  have e : formR 2 = (85, 23, 0, 0) := rfl
  rw [e]
  simp [regB, hasD1, has11, has21, immB1, h1, h2]
theorem right_jalr {rd a n : Int} (h1 : 0 ≤ rd ∧ rd ≤ 31) (h4 : 0 ≤ a ∧ a ≤ 31) (h2 : -2048 ≤ n ∧ n ≤ 2047) : rightI 4 rd a 0 n = true := by
  show (((((((formR 4).1 : Int) != 0) && regB rd (hasD1 (formR 4).1)) && regB a (has11 (formR 4).1)) && regB 0 (has21 (formR 4).1)) && immB1 (formR 4).1 n) = true
  have e : formR 4 = (73, 103, 0, 0) := rfl
  rw [e]
  simp [regB, hasD1, has11, has21, immB1, h1, h2, h4]
theorem right_br {op a b n : Int} (ho : 5 ≤ op ∧ op ≤ 10) (h1 : 0 ≤ a ∧ a ≤ 31) (h4 : 0 ≤ b ∧ b ≤ 31) (h2 : -4096 ≤ n ∧ n ≤ 4094) (h3 : n % 2 = 0) : rightI op 0 a b n = true := by
  have key : ∀ k : Nat, (formR k).1 = 66 → rightI k 0 a b n = true := fun k hk => by
    show (((((((formR k).1 : Int) != 0) && regB 0 (hasD1 (formR k).1)) && regB a (has11 (formR k).1)) && regB b (has21 (formR k).1)) && immB1 (formR k).1 n) = true
    rw [hk]
    simp [regB, hasD1, has11, has21, immB1, h1, h2, h3, h4]
  rcases (show op = 5 ∨ op = 6 ∨ op = 7 ∨ op = 8 ∨ op = 9 ∨ op = 10 by omega) with rfl | rfl | rfl | rfl | rfl | rfl
  · exact key 5 rfl
  · exact key 6 rfl
  · exact key 7 rfl
  · exact key 8 rfl
  · exact key 9 rfl
  · exact key 10 rfl
theorem okI_5 {x : It} {d : Bool} (h : okI x d = true) (hk : x.k = 5) : x.rd = 0 := by
  unfold okI at h
  rw [hk] at h
  simp [onlyB] at h
  omega
theorem okI_6 {x : It} {d : Bool} (h : okI x d = true) (hk : x.k = 6) : 1 ≤ x.rd ∧ x.rd ≤ 31 := by
  unfold okI at h
  rw [hk] at h
  simp [inB2, onlyB] at h
  omega
theorem leads_any {x : It} {s d : Int} (hk : x.k = 5 ∨ x.k = 6 ∨ x.k = 7) (hs : shapeOK x s) (hi : itemE x false = 0) (hd : -9223372036854775808 ≤ d ∧ d < 9223372036854775808) (hf : fitsM x.k s d = true) (hc : (codeM x s d).2 = true) :
    LeadsA x s d (codeM x s d).1 ∨ LeadsB x s d (codeM x s d).1 := by
  have ho : d % 2 = 0 := by
    apply Classical.byContradiction
    intro c
    rcases hk with hk | hk | hk <;> simp [codeM, hk, c] at hc
  have hok := (itemE_ok hi).1
  rcases hk with hk | hk | hk
  · have hrd := okI_5 hok hk
    rcases hs.1 (.inl hk) with rfl | rfl
    · have hr : -1048576 ≤ d ∧ d ≤ 1048574 := by simp [fitsM, reachB, hk] at hf; omega
      exact .inl ⟨[], ⟨3, x.rd, 0, 0, d⟩, by simp [codeM, hk, ho], .inl rfl, right_jal (rd := x.rd) (n := d) (by omega) hr ho, fun c => by omega, by simp only; omega⟩
    · have hfb : farB d = true := by simpa [codeM, jumpM, hk, ho] using hc
      obtain ⟨q1, q2, q3⟩ := far_parts hd hfb
      exact .inr ⟨[], ⟨2, 6, 0, 0, farH d⟩, ⟨4, 0, 6, 0, restI d⟩, by simp [codeM, jumpM, hk, ho], rfl, rfl, rfl, right_auipc (rd := 6) (by decide) q1, right_jalr (rd := 0) (a := 6) (by decide) (by decide) q2, fun c => by omega, by simp only; omega⟩
  · have hrd := okI_6 hok hk
    rcases hs.1 (.inr hk) with rfl | rfl
    · have hr : -1048576 ≤ d ∧ d ≤ 1048574 := by simp [fitsM, reachB, hk] at hf; omega
      exact .inl ⟨[], ⟨3, x.rd, 0, 0, d⟩, by simp [codeM, hk, ho], .inl rfl, right_jal (rd := x.rd) (n := d) (by omega) hr ho, fun _ => rfl, by simp only; omega⟩
    · have hfb : farB d = true := by simpa [codeM, jumpM, hk, ho] using hc
      obtain ⟨q1, q2, q3⟩ := far_parts hd hfb
      exact .inr ⟨[], ⟨2, x.rd, 0, 0, farH d⟩, ⟨4, x.rd, x.rd, 0, restI d⟩, by simp [codeM, jumpM, hk, ho], rfl, rfl, rfl, right_auipc (rd := x.rd) (by omega) q1, right_jalr (rd := x.rd) (a := x.rd) (by omega) (by omega) q2, fun _ => rfl, by simp only; omega⟩
  · obtain ⟨hop, ha, hb, hrd, hn, _⟩ := okI_7 hok hk
    rcases hs.2.1 hk with rfl | rfl | rfl
    · have hr : -4096 ≤ d ∧ d ≤ 4094 := by simp [fitsM, reachB, hk] at hf; omega
      exact .inl ⟨[], ⟨x.op, x.rd, x.a, x.b, d⟩, by simp [codeM, hk, ho], .inr hop, by simp only [hrd]; exact right_br hop ha hb hr ho, fun c => by omega, by simp only; omega⟩
    · have hr : -1048576 ≤ wrap64 (d - 4) ∧ wrap64 (d - 4) ≤ 1048574 := by simp [fitsM, reachB, hk] at hf; omega
      exact .inl ⟨[⟨turnM x.op, x.rd, x.a, x.b, 8⟩], ⟨3, 0, 0, 0, wrap64 (d - 4)⟩, by simp [codeM, hk, ho], .inl rfl, right_jal (rd := 0) (n := wrap64 (d - 4)) (by decide) hr (by unfold wrap64; omega), fun c => by omega, by simp only; unfold wrap64; omega⟩
    · have hfb : farB (wrap64 (d - 4)) = true := by simpa [codeM, jumpM, hk, ho] using hc
      obtain ⟨q1, q2, q3⟩ := far_parts (d := wrap64 (d - 4)) (by unfold wrap64; omega) hfb
      exact .inr ⟨[⟨turnM x.op, x.rd, x.a, x.b, 12⟩], ⟨2, 6, 0, 0, farH (wrap64 (d - 4))⟩, ⟨4, 0, 6, 0, restI (wrap64 (d - 4))⟩, by simp [codeM, jumpM, hk, ho], rfl, rfl, rfl, right_auipc (rd := 6) (by decide) q1, right_jalr (rd := 0) (a := 6) (by decide) (by decide) q2, fun c => by omega, by
        simp only
        have e : (12 : Int) - 8 + farH (wrap64 (d - 4)) * 4096 + restI (wrap64 (d - 4)) - d = 4 + wrap64 (d - 4) - d := by omega
        rw [e]
        unfold wrap64
        omega⟩
/-- a label is found where it stands. -/
theorem find_labs {F : Names} {xs : List It} {s : ByteArray} (h : isLab xs s.data.toList) : findM (labsM F xs) s = ((F s.data.toList).getD 0, true) := by
  induction xs with
  | nil => obtain ⟨_, c, _⟩ := h; cases c
  | cons x r ih =>
    rw [labsM]
    by_cases hk : x.k = 1
    · rw [if_pos hk]
      unfold findM
      by_cases he : x.s.toList = s.toList
      · rw [if_pos he]
        have e2 : x.s = s := toList_inj he
        rw [e2]
      · rw [if_neg he]
        refine ih ?_
        obtain ⟨y, hy, h1, h2⟩ := h
        rcases List.mem_cons.1 hy with rfl | hy
        · exact absurd (by rw [Lib.toList_data, Lib.toList_data, h2]) he
        · exact ⟨y, hy, h1, h2⟩
    · rw [if_neg hk]
      refine ih ?_
      obtain ⟨y, hy, h1, h2⟩ := h
      rcases List.mem_cons.1 hy with rfl | hy
      · exact absurd h1 hk
      · exact ⟨y, hy, h1, h2⟩
end Go.Pat

/- asm.Assemble: each jump, call and branch leads to its label (plain). -/
namespace Go.Pat
open Go Go.RowKit Go.Proofs
theorem BegOk.asks5 {text data : List It} {at_ dat : Nat} {F : Names} (h : BegOk text data at_ dat F) (x : It) (hx : x ∈ text) (hk : x.k = 4 ∨ x.k = 5 ∨ x.k = 6 ∨ x.k = 7) : isLab text x.s.data.toList ∨ isLab data x.s.data.toList := by
  have h1 := h.ask x hx (named_ne (okI_jump (itemE_ok (h.text x hx)).1 hk))
  obtain ⟨y, hy, h2⟩ := (h.labs _).1 h1
  rcases List.mem_append.1 hy with h3 | h3
  · exact .inl ⟨y, h3, h2⟩
  · exact .inr ⟨y, h3, h2⟩
theorem layV_lt (xs : List (It × Int)) (at_ : Nat) (l : List UInt8) (v : Nat) (ha : at_ < 18446744073709551616) (h : layV xs at_ l = some v) : v < 18446744073709551616 := by
  induction xs generalizing at_ with
  | nil => cases h
  | cons x r ih =>
    rw [layV] at h
    cases h1 : layV r (wrN ((at_ : Int) + x.2)) l with
    | some v2 =>
      rw [h1] at h
      obtain rfl := Option.some.inj h
      exact ih _ (wrN_lt _) h1
    | none =>
      rw [h1] at h
      simp only at h
      split at h
      · obtain rfl := Option.some.inj h; exact ha
      · cases h
theorem layM_lt {text data : List It} {S : List Int} (hl : S.length = text.length) {at_ dat : Nat} (ha : at_ < 18446744073709551616) (hd : dat < 18446744073709551616) (F : Names) (l : List UInt8) (h : isLab text l ∨ isLab data l) : ((layM text data S at_ dat F) l).getD 0 < 18446744073709551616 := by
  obtain ⟨v, h1, _⟩ := layM_moved (data := data) 0 hl at_ dat F F l h
  rw [h1]
  simp only [Option.getD_some]
  unfold layM at h1
  simp only [layL_is] at h1
  cases e1 : layV (data.map fun x => (x, leastM x)) dat l with
  | some v2 =>
    rw [e1] at h1
    obtain rfl := Option.some.inj h1
    exact layV_lt _ _ _ _ hd e1
  | none =>
    rw [e1] at h1
    simp only at h1
    cases e2 : layV (text.zip S) at_ l with
    | some v2 =>
      rw [e2] at h1
      obtain rfl := Option.some.inj h1
      exact layV_lt _ _ _ _ ha e2
    | none =>
      exfalso
      rcases h with h | h
      · have := (lay_zip hl at_ l).2 h
        rw [e2] at this
        cases this
      · have := (lay_map dat l).2 h
        rw [e1] at this
        cases this
theorem adr_succ (at_ : Nat) (xs : List (It × Int)) (k : Nat) (hk : k < xs.length) : adr at_ xs (k + 1) = wrN ((adr at_ xs k : Int) + xs[k].2) := by
  induction xs generalizing at_ k with
  | nil => simp at hk
  | cons x r ih =>
    cases k with
    | zero =>
      cases r with
      | nil => rfl
      | cons y r => rfl
    | succ k =>
      show adr (wrN ((at_ : Int) + x.2)) r (k + 1) = _
      rw [ih _ k (by simpa using hk)]
      rfl
theorem adr_off {F : Names} {at_ : Nat} (ha : at_ < 18446744073709551616) {xs : List (It × Int)} (hb : ∀ k (hk : k < xs.length), ((block F xs[k].1 xs[k].2 (adr at_ xs k)).length : Int) = xs[k].2) (k : Nat) (hk : k ≤ xs.length) : adr at_ xs k = wrN ((at_ : Int) + (offs F at_ xs k : Nat)) := by
  induction k with
  | zero =>
    have h0 : adr at_ xs 0 = at_ := by cases xs <;> rfl
    rw [h0]
    unfold offs wrN
    simp
    omega
  | succ k ih =>
    rw [adr_succ at_ xs k (by omega), ih (by omega), offs_succ F at_ xs k (by omega)]
    have h1 := hb k (by omega)
    apply wrN_eq
    rw [wrN_c]
    omega
/-- what the last instructions of an item say. -/
def ItemTo5 (T : List UInt8) (x : It) (at_ off to : Nat) (s : Int) : Prop :=
  (∃ l : In, 4 ≤ s ∧ (l.op = 3 ∨ (5 ≤ l.op ∧ l.op ≤ 10)) ∧ rightI l.op l.rd l.a l.b l.n = true ∧ (x.k = 6 → l.rd = x.rd) ∧ ((wrN ((at_ : Int) + off) : Int) + (s - 4) + l.n - to) % 18446744073709551616 = 0 ∧ ∀ r, r < 4 → T[off + s.toNat - 4 + r]? = (le 4 (encZ l.op l.rd l.a l.b l.n))[r]?) ∨
  (∃ f l : In, 8 ≤ s ∧ f.op = 2 ∧ l.op = 4 ∧ f.rd = l.a ∧ rightI f.op f.rd f.a f.b f.n = true ∧ rightI l.op l.rd l.a l.b l.n = true ∧ (x.k = 6 → l.rd = x.rd) ∧ ((wrN ((at_ : Int) + off) : Int) + (s - 8) + f.n * 4096 + l.n - to) % 18446744073709551616 = 0 ∧
    (∀ r, r < 4 → T[off + s.toNat - 4 + r]? = (le 4 (encZ l.op l.rd l.a l.b l.n))[r]?) ∧ ∀ r, r < 4 → T[off + s.toNat - 8 + r]? = (le 4 (encZ f.op f.rd f.a f.b f.n))[r]?)
theorem reached {text data : List It} {at_ dat : Nat} {F : Names} {S : List Int} {T : List UInt8} (hok : BegOk text data at_ dat F) (hF : Final text data at_ dat F S) (hT : bytM (layM text data S at_ dat F) 0 at_ (text.zip S) [] = .inr T) :
    ∃ o : Nat → Nat, o 0 = 0 ∧ o text.length = T.length ∧ ∀ k (hk : k < text.length) (hk2 : k < S.length), 0 ≤ S[k] ∧ S[k] ≤ 1048576 ∧ (o (k + 1) : Int) = o k + S[k] ∧ o (k + 1) ≤ T.length ∧
      ((text[k].k = 5 ∨ text[k].k = 6 ∨ text[k].k = 7) → S[k] ≤ 12 ∧ (findM (labsM (layM text data S at_ dat F) (text ++ data)) text[k].s).2 = true ∧ (findM (labsM (layM text data S at_ dat F) (text ++ data)) text[k].s).1 < 18446744073709551616 ∧
        ItemTo5 T text[k] at_ (o k) (findM (labsM (layM text data S at_ dat F) (text ++ data)) text[k].s).1 S[k]) := by
  have hat : at_ < 18446744073709551616 := by have := hok.lim; omega
  have hdat : dat < 18446744073709551616 := by have := hok.lim; omega
  obtain ⟨⟨j, hj⟩, hst⟩ := hF
  have hl : S.length = text.length := by rw [hj]; exact roundsM_length _ _ _ _ _ _
  have hsh := rounds_shape text data at_ dat F j
  rw [← hj] at hsh
  have hfix := nexts_fix hl hst
  have hlt := fun l h => layM_lt (data := data) hl hat hdat F l h
  generalize hF3 : layM text data S at_ dat F = F3 at *
  obtain ⟨hT1, hT2⟩ := bytM_ok hT
  rw [List.nil_append] at hT1
  have hz : (text.zip S).length = text.length := by simp; omega
  have hb : ∀ k (hk : k < (text.zip S).length), ((block F3 (text.zip S)[k].1 (text.zip S)[k].2 (adr at_ (text.zip S) k)).length : Int) = (text.zip S)[k].2 := fun k hk => by
    refine block_len (hsh _ (List.getElem_mem hk)) ?_ (hT2 k hk)
    simp only [List.getElem_zip]
    exact hok.text _ (List.getElem_mem _)
  refine ⟨offs F3 at_ (text.zip S), by simp [offs], ?_, fun k hk hk2 => ?_⟩
  · unfold offs
    rw [List.take_of_length_le (by rw [blocks_length, hz]; exact Nat.le_refl _), ← hT1]
  · have hkz : k < (text.zip S).length := by omega
    have h1 := hb k hkz
    have h2 := offs_succ F3 at_ (text.zip S) k hkz
    have h3 := hsh _ (List.getElem_mem hkz)
    have h4 := hT2 k hkz
    have h5 := hfix k hk
    have h6 := adr_off hat hb k (by omega)
    have h7 := fun r hr => at_block F3 at_ (text.zip S) k hkz r hr
    simp only [List.getElem_zip] at h1 h2 h3 h4 h7
    rw [← hT1] at h7
    have hle : offs F3 at_ (text.zip S) (k + 1) ≤ T.length := by
      rw [hT1]
      unfold offs
      have e := List.take_append_drop (k + 1) (blocks F3 at_ (text.zip S))
      have e2 := congrArg (fun L => L.flatten.length) e
      simp only [List.flatten_append, List.length_append] at e2
      omega
    have hie := hok.text _ (List.getElem_mem hk)
    have hS0 : (0 : Int) ≤ S[k] := by rw [← h1]; exact Int.natCast_nonneg _
    have hx9 := fun h9 => okI_9 (itemE_ok hie).1 h9
    have hS1 : S[k] ≤ 1048576 := by
      by_cases hkk : text[k].k = 5 ∨ text[k].k = 6 ∨ text[k].k = 7
      · rcases hkk with hkk | hkk | hkk
        · rcases h3.1 (.inl hkk) with e | e <;> simp only [e] <;> omega
        · rcases h3.1 (.inr hkk) with e | e <;> simp only [e] <;> omega
        · rcases h3.2.1 hkk with e | e | e <;> simp only [e] <;> omega
      · rw [h3.2.2 hkk]
        have hll : (liL text[k].rd text[k].n).length ≤ 12 := liM_len 6 _ _
        unfold leastM
        split
        · omega
        · split
          · omega
          · split
            · rename_i h9
              exact (hx9 h9).2
            · split <;> omega
    refine ⟨hS0, hS1, by rw [h2]; omega, hle, fun hkk => ?_⟩
    have hlab := hok.asks5 text[k] (List.getElem_mem hk) (by omega)
    have hfl := find_labs (F := F3) (xs := text ++ data) (s := text[k].s) (by
      rcases hlab with ⟨y, hy, h⟩ | ⟨y, hy, h⟩
      · exact ⟨y, List.mem_append_left _ hy, h⟩
      · exact ⟨y, List.mem_append_right _ hy, h⟩)
    have hto := hlt _ hlab
    have hS12 : S[k] ≤ 12 := by
      rcases hkk with hkk | hkk | hkk
      · rcases h3.1 (.inl hkk) with e | e <;> simp only [e] <;> omega
      · rcases h3.1 (.inr hkk) with e | e <;> simp only [e] <;> omega
      · rcases h3.2.1 hkk with e | e | e <;> simp only [e] <;> omega
    rw [hfl]
    refine ⟨hS12, rfl, hto, ?_⟩
    simp only
    unfold ItemTo5
    rw [← h6]
    have hraw : rawM text[k] = [] := by
      unfold rawM
      rw [if_neg (by omega), if_neg (by omega)]
    unfold block at h1 h7
    rw [hraw, List.append_nil] at h1
    simp only [hraw, List.append_nil] at h7
    generalize hdd : distM F3 text[k].s (adr at_ (text.zip S) k) = d at *
    have hd : -9223372036854775808 ≤ d ∧ d < 9223372036854775808 := by
      rw [← hdd]
      unfold distM wrap64
      omega
    have hdm : (d - ((((F3 text[k].s.data.toList).getD 0 : Nat) : Int) - (adr at_ (text.zip S) k : Int))) % 18446744073709551616 = 0 := by
      rw [← hdd]
      unfold distM wrap64
      rw [IntKind.wrap_u64]
      omega
    generalize (F3 text[k].s.data.toList).getD 0 = to at *
    generalize adr at_ (text.zip S) k = ad at *
    generalize offs F3 at_ (text.zip S) k = of at *
    have hlead := leads_any hkk h3 hie hd h5 h4
    generalize (codeM text[k] S[k] d).1 = code at *
    generalize hsz : S[k] = sz at *
    rcases hlead with ⟨pre, l, rfl, q1, q2, q3, q4⟩ | ⟨pre, fi, l, rfl, q0, q1, q5, q6, q2, q3, q4⟩
    · rw [insB_append, List.length_append, insB_length, insB_length] at h1
      simp only [List.length_cons, List.length_nil] at h1
      refine .inl ⟨l, by omega, q1, q2, q3, by omega, fun r hr => ?_⟩
      have h8 := h7 (sz.toNat - 4 + r) (by rw [insB_append, List.length_append, insB_length, insB_length]; simp only [List.length_cons, List.length_nil]; omega)
      rw [show of + sz.toNat - 4 + r = of + (sz.toNat - 4 + r) by omega, h8, insB_append, List.getElem?_append_right (by rw [insB_length]; omega), insB_length]
      rw [show sz.toNat - 4 + r - 4 * pre.length = r by omega]
      simp [insB]
    · rw [insB_append, List.length_append, insB_length, insB_length] at h1
      simp only [List.length_cons, List.length_nil] at h1
      refine .inr ⟨fi, l, by omega, q0, q1, q5, q6, q2, q3, by omega, fun r hr => ?_, fun r hr => ?_⟩
      · have h8 := h7 (sz.toNat - 4 + r) (by rw [insB_append, List.length_append, insB_length, insB_length]; simp only [List.length_cons, List.length_nil]; omega)
        rw [show of + sz.toNat - 4 + r = of + (sz.toNat - 4 + r) by omega, h8, insB_append, List.getElem?_append_right (by rw [insB_length]; omega), insB_length]
        rw [show sz.toNat - 4 + r - 4 * pre.length = 4 + r by omega]
        simp only [insB, List.append_nil]
        rw [List.getElem?_append_right (by rw [le_length]; omega), le_length, Nat.add_sub_cancel_left]
      · have h8 := h7 (sz.toNat - 8 + r) (by rw [insB_append, List.length_append, insB_length, insB_length]; simp only [List.length_cons, List.length_nil]; omega)
        rw [show of + sz.toNat - 8 + r = of + (sz.toNat - 8 + r) by omega, h8, insB_append, List.getElem?_append_right (by rw [insB_length]; omega), insB_length]
        rw [show sz.toNat - 8 + r - 4 * pre.length = r by omega]
        simp only [insB, List.append_nil]
        rw [List.getElem?_append_left (by rw [le_length]; omega)]
end Go.Pat

/- patinalaw05.word: the word at a place of code. -/
namespace Go.Proofs
open Go Go.RowKit Go.Pat
theorem byte_at {B : Nat} {w : World} {A : Option Addr} {l : List UInt8} (h : Bs B w A l) (k : Nat) (c : UInt8) (hk : l[k]? = some c) : ∃ b o, A = some ⟨b, o, none⟩ ∧ b < B ∧ w.cell? ⟨b, o + k, none⟩ = some (.int .u8 (c.toNat : Int)) := by
  have hl : k < l.length := (List.getElem?_eq_some_iff.1 hk).1
  obtain ⟨b, o, rfl, hb, hc⟩ := h k (by rw [bcells_length]; exact hl)
  refine ⟨b, o, rfl, hb, ?_⟩
  rw [hc]
  have h2 := (List.getElem?_eq_some_iff.1 hk).2
  simp [bcells, bval, h2]
set_option maxRecDepth 20000 in
set_option maxHeartbeats 4000000 in
theorem word5_any (w : World) (A : Option Addr) (n c : Nat) (vd vl : Value) (T : List UInt8) (hT : Bs w.heap.size w A T) (_hn : T.length = n) (at_ : Nat) (hat : at_ + 4 ≤ n) (hlen : n ≤ 1000000000000000) (b0 b1 b2 b3 : UInt8) (h0 : T[at_]? = some b0) (h1 : T[at_ + 1]? = some b1) (h2 : T[at_ + 2]? = some b2) (h3 : T[at_ + 3]? = some b3) :
    Calls Tryd.prog 57 #[.agg #[.slice A n c, vd, vl], .int .i64 (at_ : Int)] w fun e w' => e = .returned (.int .u32 ((b0.toNat + b1.toNat * 256 + b2.toNat * 65536 + b3.toNat * 16777216 : Nat) : Int)) ∧ Below w.heap.size w w' := by
  obtain ⟨b, o, rfl, hb, x0⟩ := byte_at hT _ _ h0
  obtain ⟨_, _, e1, _, x1⟩ := byte_at hT _ _ h1
  cases e1
  obtain ⟨_, _, e2, _, x2⟩ := byte_at hT _ _ h2
  cases e2
  obtain ⟨_, _, e3, _, x3⟩ := byte_at hT _ _ h3
  cases e3
  have q0 : b0.toNat < 256 := UInt8.toNat_lt b0
  have q1 : b1.toNat < 256 := UInt8.toNat_lt b1
  have q2 : b2.toNat < 256 := UInt8.toNat_lt b2
  have q3 : b3.toNat < 256 := UInt8.toNat_lt b3
  generalize b0.toNat = y0 at *
  generalize b1.toNat = y1 at *
  generalize b2.toNat = y2 at *
  generalize b3.toNat = y3 at *
  have i0 : (at_ : Int) < (n : Int) := by omega
  have i1 : (at_ : Int) + 1 < (n : Int) := by omega
  have i2 : (at_ : Int) + 2 < (n : Int) := by omega
  have i3 : (at_ : Int) + 3 < (n : Int) := by omega
  clear hT h0 h1 h2 h3 _hn
  go_enter Tryd.func57, Tryd.ntmps57
  go_wp2
  go_quiet (fail)
  go_wp2
  go_ret
  refine ⟨?_, bdrewN (form1 w _) _⟩
  show Ending.returned (.int .u32 (bits .or .u32 (bits .or .u32 (bits .or .u32 (y0 : Int) ((y1 : Int) * 256)) ((y2 : Int) * 65536)) ((y3 : Int) * 16777216))) = _
  rw [orI y0 y1 8 (by omega) (by omega) _ (by omega), orI (y0 + y1 * 2 ^ 8) y2 16 (by omega) (by omega) _ (by omega), orI (y0 + y1 * 2 ^ 8 + y2 * 2 ^ 16) y3 24 (by omega) (by omega) _ (by omega)]
theorem word5_le (w : World) (A : Option Addr) (n c : Nat) (vd vl : Value) (T : List UInt8) (hT : Bs w.heap.size w A T) (hn : T.length = n) (at_ : Nat) (hat : at_ + 4 ≤ n) (hlen : n ≤ 1000000000000000) (z : Nat) (hz : z < 4294967296) (hb : ∀ r, r < 4 → T[at_ + r]? = (le 4 z)[r]?) :
    Calls Tryd.prog 57 #[.agg #[.slice A n c, vd, vl], .int .i64 (at_ : Int)] w fun e w' => e = .returned (.int .u32 (z : Int)) ∧ Below w.heap.size w w' := by
  have h := word5_any w A n c vd vl T hT hn at_ hat hlen (UInt8.ofNat (z / 256 ^ 0)) (UInt8.ofNat (z / 256 ^ 1)) (UInt8.ofNat (z / 256 ^ 2)) (UInt8.ofNat (z / 256 ^ 3)) (hb 0 (by decide)) (hb 1 (by decide)) (hb 2 (by decide)) (hb 3 (by decide))
  have e : (UInt8.ofNat (z / 256 ^ 0)).toNat + (UInt8.ofNat (z / 256 ^ 1)).toNat * 256 + (UInt8.ofNat (z / 256 ^ 2)).toNat * 65536 + (UInt8.ofNat (z / 256 ^ 3)).toNat * 16777216 = z := by
    rw [UInt8.toNat_ofNat', UInt8.toNat_ofNat', UInt8.toNat_ofNat', UInt8.toNat_ofNat']
    simp only [Nat.reducePow]
    omega
  rw [e] at h
  exact h
/-- what is encoded is decoded. -/
theorem dec_back {op rd a b n : Int} (ho : op = 2 ∨ op = 3 ∨ op = 4 ∨ (5 ≤ op ∧ op ≤ 10)) (h : rightI op rd a b n = true) : encZ op rd a b n < 4294967296 ∧ decV (encZ op rd a b n) = .tuple #[.agg #[.int .i64 op, .int .i64 rd, .int .i64 a, .int .i64 b, .int .i64 n], .int .i64 0] := by
  have hb : Back op rd a b n := by
    rcases ho with rfl | rfl | rfl | ho
    · exact back_2 rd a b n h
    · exact back_3 rd a b n h
    · exact back_4 rd a b n h
    · exact back_br op rd a b n ho h
  obtain ⟨h1, h2, ⟨d1, _⟩, ⟨a1, _⟩, ⟨b1, _⟩⟩ := rightI_rng h
  refine ⟨hb.1, ?_⟩
  unfold decV
  rw [hb.2]
  simp only [Ins.cells]
  rw [Int.toNat_of_nonneg (by omega), Int.toNat_of_nonneg d1, Int.toNat_of_nonneg a1, Int.toNat_of_nonneg b1]
end Go.Proofs

/- patinalaw05.leads: the last instructions lead to the label. -/
namespace Go.Proofs
open Go Go.RowKit Go.Pat
def TrueTo2 (w : World) (e : Ending) (w' : World) : Prop := e = .returned (.bool true) ∧ Below w.heap.size w w'
set_option maxRecDepth 20000 in
set_option maxHeartbeats 8000000 in
theorem leadsA_any (w : World) (A : Option Addr) (n c : Nat) (vd vl : Value) (T : List UInt8) (hT : Bs w.heap.size w A T) (hn : T.length = n) (hlen : n ≤ 1000000000000000) (at_ size frm to : Nat) (x : It) (l : In)
    (hs : 4 ≤ size) (hs2 : size ≤ 12) (hat : at_ + size ≤ n) (_hfr : frm < 18446744073709551616) (hto : to < 18446744073709551616)
    (ho : l.op = 3 ∨ (5 ≤ l.op ∧ l.op ≤ 10)) (hr : rightI l.op l.rd l.a l.b l.n = true) (hk : x.k = 6 → l.rd = x.rd) (hm : ((frm : Int) + ((size : Int) - 4) + l.n - to) % 18446744073709551616 = 0)
    (hb : ∀ r, r < 4 → T[at_ + size - 4 + r]? = (le 4 (encZ l.op l.rd l.a l.b l.n))[r]?) :
    Calls Tryd.prog 23 #[.agg #[.slice A n c, vd, vl], .int .i64 (at_ : Int), .int .u64 (frm : Int), .int .i64 (size : Int), .agg x.cs, .int .u64 (to : Int)] w (TrueTo2 w) := by
  obtain ⟨hz, hdv⟩ := dec_back (by omega) hr
  have HW := Lib.hid (fun W (hW : Below w.heap.size w W) => word5_le W A n c vd vl T ((hT.below hW).more hW.size) hn (at_ + size - 4) (by omega) hlen _ hz hb)
  have HD := Lib.hid (fun W => (r1Decode_any _ hz W).mono fun e w' h => (show e = .returned (.tuple #[.agg #[.int .i64 l.op, .int .i64 l.rd, .int .i64 l.a, .int .i64 l.b, .int .i64 l.n], .int .i64 0]) ∧ Below W.heap.size W w' from ⟨h.1.trans (by rw [hdv]), h.2⟩))
  have hn4 : (l.op != 4) = true := by simp; omega
  have hpc : IntKind.u64.wrap (IntKind.u64.wrap ((frm : Int) + ((size : Int) - 4)) + IntKind.u64.wrap l.n) = (to : Int) := by
    rw [IntKind.wrap_u64, IntKind.wrap_u64, IntKind.wrap_u64]; omega
  have ea : ((at_ + size - 4 : Nat) : Int) = (at_ : Int) + (size : Int) - 4 := by omega
  rw [ea] at HW
  obtain ⟨x0, x1, x2, x3, x4, x5, x6⟩ := x
  simp only at hk
  show Calls Tryd.prog 23 #[.agg #[.slice A n c, vd, vl], .int .i64 (at_ : Int), .int .u64 (frm : Int), .int .i64 (size : Int), .agg #[.int .i64 x0, .string x1, .int .i64 x2, .int .i64 x3, .int .i64 x4, .int .i64 x5, .int .i64 x6], .int .u64 (to : Int)] w (TrueTo2 w)
  generalize encZ l.op l.rd l.a l.b l.n = z at *
  generalize l.op = o0 at *
  generalize l.rd = o1 at *
  generalize l.a = o2 at *
  generalize l.b = o3 at *
  generalize l.n = o4 at *
  have t1 : decide ((size : Int) < 4) = false := decide_eq_false (by omega)
  have t2 : decide ((n : Int) < (at_ : Int) + (size : Int)) = false := decide_eq_false (by omega)
  have hB2 := form2 w (.cells #[.slice A n c, vd, vl] 45) (.cells #[.int .i64 x0, .string x1, .int .i64 x2, .int .i64 x3, .int .i64 x4, .int .i64 x5, .int .i64 x6] 61)
  have hx2 := heap_alloc_new (w.alloc (.cells #[.slice A n c, vd, vl] 45)) (.cells #[.int .i64 x0, .string x1, .int .i64 x2, .int .i64 x3, .int .i64 x4, .int .i64 x5, .int .i64 x6] 61)
  rw [World.size_alloc] at hx2
  have HB2 := Lib.hid (And.intro hB2 hx2)
  have HPC := Lib.hid hpc
  have tpc : (IntKind.u64.wrap (IntKind.u64.wrap ((frm : Int) + ((size : Int) - 4)) + IntKind.u64.wrap o4) == (to : Int)) = true := by rw [hpc]; simp
  have hsz : size ≤ 12 := hs2
  have hrd : (x0 != 6) = true ∨ ((x0 != 6) = false ∧ (o1 == x3) = true) := by
    by_cases h6 : x0 = 6
    · exact .inr ⟨by simpa using h6, by simpa using hk h6⟩
    · exact .inl (by simpa using h6)
  clear hT hn hb hr hm hdv ho hk hB2 hx2 hpc hz
  rcases hrd with t6 | ⟨t6, t7⟩
  all_goals
    go_enter Tryd.func23, Tryd.ntmps23
    go_wp2_with fail
    with_reducible refine Calls.mono (HW.out _ HB2.out.1) ?_
    rintro e w3 ⟨rfl, hB3⟩
    have HB3 := Lib.hid (And.intro (HB2.out.1.trans (hB3.mono HB2.out.1.size)) ((hB3.block (w.heap.size + 1) (by rw [World.size_alloc, World.size_alloc]; omega)).trans HB2.out.2))
    clear hB3
    go_wp2_with fail
    with_reducible refine Calls.mono (HD.out _) ?_
    rintro e w4 ⟨rfl, hB4⟩
    have hx4 := (hB4.block (w.heap.size + 1) (lt_of_block HB3.out.2)).trans HB3.out.2
    have g0 := (obj_cell hx4 0).trans rfl
    have g3 := (obj_cell hx4 3).trans rfl
    have hl4 := lt_of_block hx4
    have HB4 := Lib.hid (HB3.out.1.trans (hB4.mono HB3.out.1.size))
    clear hx4 hB4
    go_wp2_with fail
    go_ret
    exact ⟨rfl, HB4.out.alloc HB4.out.size _⟩
set_option maxRecDepth 20000 in
set_option maxHeartbeats 8000000 in
theorem leadsB_any (w : World) (A : Option Addr) (n c : Nat) (vd vl : Value) (T : List UInt8) (hT : Bs w.heap.size w A T) (hn : T.length = n) (hlen : n ≤ 1000000000000000) (at_ size frm to : Nat) (x : It) (f l : In)
    (hs : 8 ≤ size) (hs2 : size ≤ 12) (hat : at_ + size ≤ n) (_hfr : frm < 18446744073709551616) (hto : to < 18446744073709551616)
    (hof : f.op = 2) (ho : l.op = 4) (hfa : f.rd = l.a) (hrf : rightI f.op f.rd f.a f.b f.n = true) (hr : rightI l.op l.rd l.a l.b l.n = true) (hk : x.k = 6 → l.rd = x.rd) (hm : ((frm : Int) + ((size : Int) - 8) + f.n * 4096 + l.n - to) % 18446744073709551616 = 0)
    (hb : ∀ r, r < 4 → T[at_ + size - 4 + r]? = (le 4 (encZ l.op l.rd l.a l.b l.n))[r]?) (hbf : ∀ r, r < 4 → T[at_ + size - 8 + r]? = (le 4 (encZ f.op f.rd f.a f.b f.n))[r]?) :
    Calls Tryd.prog 23 #[.agg #[.slice A n c, vd, vl], .int .i64 (at_ : Int), .int .u64 (frm : Int), .int .i64 (size : Int), .agg x.cs, .int .u64 (to : Int)] w (TrueTo2 w) := by
  obtain ⟨hz, hdv⟩ := dec_back (by omega) hr
  obtain ⟨hzf, hdf⟩ := dec_back (by omega) hrf
  have HW := Lib.hid (fun W (hW : Below w.heap.size w W) => word5_le W A n c vd vl T ((hT.below hW).more hW.size) hn (at_ + size - 4) (by omega) hlen _ hz hb)
  have HWf := Lib.hid (fun W (hW : Below w.heap.size w W) => word5_le W A n c vd vl T ((hT.below hW).more hW.size) hn (at_ + size - 8) (by omega) hlen _ hzf hbf)
  have HD := Lib.hid (fun W => (r1Decode_any _ hz W).mono fun e w' h => (show e = .returned (.tuple #[.agg #[.int .i64 l.op, .int .i64 l.rd, .int .i64 l.a, .int .i64 l.b, .int .i64 l.n], .int .i64 0]) ∧ Below W.heap.size W w' from ⟨h.1.trans (by rw [hdv]), h.2⟩))
  have HDf := Lib.hid (fun W => (r1Decode_any _ hzf W).mono fun e w' h => (show e = .returned (.tuple #[.agg #[.int .i64 f.op, .int .i64 f.rd, .int .i64 f.a, .int .i64 f.b, .int .i64 f.n], .int .i64 0]) ∧ Below W.heap.size W w' from ⟨h.1.trans (by rw [hdf]), h.2⟩))
  have hpc : IntKind.u64.wrap (IntKind.u64.wrap (IntKind.u64.wrap (IntKind.u64.wrap ((frm : Int) + ((size : Int) - 4)) - 4) + IntKind.u64.wrap (IntKind.u64.wrap f.n * 4096)) + IntKind.u64.wrap l.n) = (to : Int) := by
    simp only [IntKind.wrap_u64]; omega
  have ea : ((at_ + size - 4 : Nat) : Int) = (at_ : Int) + (size : Int) - 4 := by omega
  have eb : ((at_ + size - 8 : Nat) : Int) = (at_ : Int) + (size : Int) - 8 := by omega
  rw [ea] at HW
  rw [eb] at HWf
  obtain ⟨x0, x1, x2, x3, x4, x5, x6⟩ := x
  simp only at hk
  show Calls Tryd.prog 23 #[.agg #[.slice A n c, vd, vl], .int .i64 (at_ : Int), .int .u64 (frm : Int), .int .i64 (size : Int), .agg #[.int .i64 x0, .string x1, .int .i64 x2, .int .i64 x3, .int .i64 x4, .int .i64 x5, .int .i64 x6], .int .u64 (to : Int)] w (TrueTo2 w)
  generalize encZ l.op l.rd l.a l.b l.n = z at *
  generalize encZ f.op f.rd f.a f.b f.n = zf at *
  rw [ho] at HD
  rw [hof, hfa] at HDf
  generalize l.rd = o1 at *
  generalize l.a = o2 at *
  generalize l.b = o3 at *
  generalize l.n = o4 at *
  generalize f.a = f2 at *
  generalize f.b = f3 at *
  generalize f.n = f4 at *
  have t1 : decide ((size : Int) < 4) = false := decide_eq_false (by omega)
  have t8 : decide ((size : Int) < 8) = false := decide_eq_false (by omega)
  have t2 : decide ((n : Int) < (at_ : Int) + (size : Int)) = false := decide_eq_false (by omega)
  have hB2 := form2 w (.cells #[.slice A n c, vd, vl] 45) (.cells #[.int .i64 x0, .string x1, .int .i64 x2, .int .i64 x3, .int .i64 x4, .int .i64 x5, .int .i64 x6] 61)
  have hx2 := heap_alloc_new (w.alloc (.cells #[.slice A n c, vd, vl] 45)) (.cells #[.int .i64 x0, .string x1, .int .i64 x2, .int .i64 x3, .int .i64 x4, .int .i64 x5, .int .i64 x6] 61)
  rw [World.size_alloc] at hx2
  have hc2 : ((w.alloc (.cells #[.slice A n c, vd, vl] 45)).alloc (.cells #[.int .i64 x0, .string x1, .int .i64 x2, .int .i64 x3, .int .i64 x4, .int .i64 x5, .int .i64 x6] 61)).heap[w.heap.size]? = some (.cells #[.slice A n c, vd, vl] 45 (0, 0)) := obj_alloc (heap_alloc_new w _)
  have HB2 := Lib.hid (And.intro hB2 (And.intro hx2 hc2))
  have HPC := Lib.hid hpc
  have tpc : (IntKind.u64.wrap (IntKind.u64.wrap (IntKind.u64.wrap (IntKind.u64.wrap ((frm : Int) + ((size : Int) - 4)) - 4) + IntKind.u64.wrap (IntKind.u64.wrap f4 * 4096)) + IntKind.u64.wrap o4) == (to : Int)) = true := by rw [hpc]; simp
  have hrd : (x0 != 6) = true ∨ ((x0 != 6) = false ∧ (o1 == x3) = true) := by
    by_cases h6 : x0 = 6
    · exact .inr ⟨by simpa using h6, by simpa using hk h6⟩
    · exact .inl (by simpa using h6)
  clear hT hn hb hbf hr hrf hm hdv hdf ho hof hfa hk hB2 hx2 hc2 hpc hz hzf
  rcases hrd with t6 | ⟨t6, t7⟩
  all_goals
    go_enter Tryd.func23, Tryd.ntmps23
    go_wp2_with fail
    with_reducible refine Calls.mono (HW.out _ HB2.out.1) ?_
    rintro e w3 ⟨rfl, hB3⟩
    have HB3 := Lib.hid (And.intro (HB2.out.1.trans (hB3.mono HB2.out.1.size)) (And.intro ((hB3.block (w.heap.size + 1) (by rw [World.size_alloc, World.size_alloc]; omega)).trans HB2.out.2.1) ((hB3.block w.heap.size (by rw [World.size_alloc, World.size_alloc]; omega)).trans HB2.out.2.2)))
    clear hB3
    go_wp2_with fail
    with_reducible refine Calls.mono (HD.out _) ?_
    rintro e w4 ⟨rfl, hB4⟩
    have hx4 := (hB4.block (w.heap.size + 1) (lt_of_block HB3.out.2.1)).trans HB3.out.2.1
    have hc4 := (hB4.block w.heap.size (lt_of_block HB3.out.2.2)).trans HB3.out.2.2
    have g0 := (obj_cell hc4 0).trans rfl
    have g1 := (obj_cell hc4 1).trans rfl
    have g2 := (obj_cell hc4 2).trans rfl
    have hl4 := lt_of_block hc4
    have HB4 := Lib.hid (And.intro (HB3.out.1.trans (hB4.mono HB3.out.1.size)) hx4)
    clear hx4 hc4 hB4
    go_wp2_with fail
    with_reducible refine Calls.mono (HWf.out _ (HB4.out.1.alloc HB4.out.1.size _)) ?_
    rintro e w5 ⟨rfl, hB5⟩
    have hi5 := (hB5.block w4.heap.size (by rw [World.size_alloc]; omega)).trans (heap_alloc_new w4 _)
    have hx5 := (hB5.block (w.heap.size + 1) (by have := lt_of_block HB4.out.2; rw [World.size_alloc]; omega)).trans (obj_alloc HB4.out.2)
    have HB5 := Lib.hid (And.intro ((HB4.out.1.alloc HB4.out.1.size _).trans (hB5.mono (HB4.out.1.alloc HB4.out.1.size _).size)) (And.intro hx5 hi5))
    have hl5 := lt_of_block hi5
    clear hB5 hx5 hi5
    go_wp2_with fail
    with_reducible refine Calls.mono (HDf.out _) ?_
    rintro e w6 ⟨rfl, hB6⟩
    have hi6 := (hB6.block w4.heap.size hl5).trans HB5.out.2.2
    have hx6 := (hB6.block (w.heap.size + 1) (lt_of_block HB5.out.2.1)).trans HB5.out.2.1
    have j1 := (obj_cell hi6 1).trans rfl
    have j2 := (obj_cell hi6 2).trans rfl
    have j4 := (obj_cell hi6 4).trans rfl
    have k0 := (obj_cell hx6 0).trans rfl
    have k3 := (obj_cell hx6 3).trans rfl
    have hl6 := lt_of_block hi6
    have hl7 := lt_of_block hx6
    have HB6 := Lib.hid (HB5.out.1.trans (hB6.mono HB5.out.1.size))
    clear hB6 hi6 hx6
    go_wp2_with fail
    go_ret
    exact ⟨rfl, HB6.out.alloc HB6.out.size _⟩
end Go.Proofs

/- patina/asm.Sizes: how many bytes each item of a text takes. -/
namespace Go.Proofs
open Go Go.RowKit Go.Pat
section
variable (w : World) (TA : Option Addr) (tc : Nat) (text : List It) (DA : Option Addr) (dc : Nat) (data : List It) (at_ dat : Nat)
def SizesTo (e : Ending) (w' : World) : Prop :=
  Below w.heap.size w w' ∧ ∃ S, Fin text data at_ dat S ∧ match asmR text data at_ dat S with
    | .inl x => e = .returned (.tuple #[.slice none 0 0, .int .i64 x.1, .int .i64 (x.2 : Int)])
    | .inr _ => ∃ v, e = .returned (.tuple #[v, .int .i64 0, .int .i64 0]) ∧ OwnZ w' w.heap.size v S ∧ S.length = text.length
set_option maxRecDepth 20000 in
set_option maxHeartbeats 8000000 in
theorem aSizes_any (hT : Cs w.heap.size w TA (tcells text)) (hD : Cs w.heap.size w DA (tcells data)) (hns : ∀ x ∈ text ++ data, x.s.size ≤ maxLen) (hni : ∀ x ∈ text ++ data, -9223372036854775808 ≤ x.n ∧ x.n < 9223372036854775808) (htz : TzTab w) (hrv : RvRows w) (ht : text.length ≤ maxLen) (hd : data.length ≤ maxLen)
    (hat : at_ < 18446744073709551616) (hdat : dat < 18446744073709551616) :
    Calls Tryd.prog 22 #[.slice TA text.length tc, .slice DA data.length dc, .int .u64 (at_ : Int), .int .u64 (dat : Int)] w (SizesTo w text data at_ dat) := by
  have HBg := Lib.hid (abegin_any w TA tc text DA dc data at_ dat hT hD hns htz hrv ht hd)
  have HNS := Lib.hid hns
  have HNI := Lib.hid hni
  clear hns hni hT hD htz hrv
  cases hbm : begM text data at_ dat with
  | inl x =>
    obtain ⟨x1, x2⟩ := x
    have hx1 := begM_err hbm
    have te : (x1 != 0) = true := by simpa using hx1
    have HP := Lib.hid (show ∀ W, Below w.heap.size w W → SizesTo w text data at_ dat (.returned (.tuple #[.slice none 0 0, .int .i64 x1, .int .i64 (x2 : Int)])) W from fun W hW =>
      ⟨hW, [], (fun F hF => (by rw [hbm] at hF; cases hF)), by simp only [asmR, hbm]⟩)
    generalize SizesTo w text data at_ dat = PP at *
    have HBM := Lib.hid hbm
    clear hbm hx1
    go_enter Tryd.func22, Tryd.ntmps22
    go_wp2_with fail
    refine Calls.mono HBg.out ?_
    rintro e w2 ⟨hB2, hm⟩
    simp only [HBM.out] at hm
    subst hm
    have HZ := Lib.hid hB2
    clear hB2
    go_wp2_with fail
    go_ret3
    exact HP.out _ HZ.out
  | inr F =>
    have hok := begM_ok hbm
    have HPe := Lib.hid (show ∀ (W : World) (S : List Int) (n : Nat), Final text data at_ dat F S → bytM (layM text data S at_ dat F) 0 at_ (text.zip S) [] = .inl n → Below w.heap.size w W → SizesTo w text data at_ dat (.returned (.tuple #[.slice none 0 0, .int .i64 52, .int .i64 (n : Int)])) W from fun W S n h1 h2 h3 =>
      ⟨h3, S, (fun F2 hF => (by rw [hbm] at hF; cases hF; exact h1)), by simp only [asmR, hbm, h2]⟩)
    have HPo := Lib.hid (show ∀ (W : World) (S : List Int) (l : List UInt8) (v : Value), Final text data at_ dat F S → bytM (layM text data S at_ dat F) 0 at_ (text.zip S) [] = .inr l → Below w.heap.size w W → OwnZ W w.heap.size v S → S.length = text.length →
      SizesTo w text data at_ dat (.returned (.tuple #[v, .int .i64 0, .int .i64 0])) W from fun W S l v h1 h2 h3 h4 h5 =>
      ⟨h3, S, (fun F2 hF => (by rw [hbm] at hF; cases hF; exact h1)), by simp only [asmR, hbm, h2]; exact ⟨v, rfl, h4, h5⟩⟩)
    generalize SizesTo w text data at_ dat = PP at *
    have HBM := Lib.hid hbm
    have HOK := Lib.hid hok
    have hlim := hok.lim.2.2.2.2
    clear hbm hok
    go_enter Tryd.func22, Tryd.ntmps22
    go_wp2_with fail
    refine Calls.mono HBg.out ?_
    rintro e w2 ⟨hB2, hm⟩
    simp only [HBM.out] at hm
    obtain ⟨p, mb, nm, hnm, rfl, hPm⟩ := hm
    have HRx := Lib.hid (arelax_any _ w2 p TA tc text DA dc data at_ dat mb nm F hPm (by omega) HNS.out HNI.out hat hdat)
    have HB2 := Lib.hid hB2
    clear hB2 hPm
    go_wp2_with fail
    with_reducible refine Calls.mono HRx.out ?_
    rintro e w3 ⟨rfl, hB3, nm2, sv, S, hFin, hP3⟩
    have hlS : S.length = text.length := by
      obtain ⟨⟨j, rfl⟩, _⟩ := hFin
      exact roundsM_length _ _ _ _ _ _
    generalize hF3 : layM text data S at_ dat F = F3 at *
    have HBy := abytes_any _ w3 p TA tc text DA dc data at_ dat mb nm2 F3 sv S hP3 hlS (fun x hx => HNS.out x (List.mem_append_left _ hx)) (fun x hx => HNI.out x (List.mem_append_left _ hx)) (fun x hx hk => (okI_7 (itemE_ok (HOK.out.text x hx)).1 hk).1) (fun x hx hk => okI_9 (itemE_ok (HOK.out.text x hx)).1 hk) hat
    have H3 := Lib.hid (And.intro hFin (And.intro hF3 (And.intro hlS (And.intro hP3 (HB2.out.trans hB3)))))
    clear hB3 hFin hF3 hlS hP3
    cases hby : bytM F3 0 at_ (text.zip S) [] with
    | inl n =>
      rw [hby] at HBy
      have HBy2 := Lib.hid HBy
      have HBE := Lib.hid hby
      clear HBy hby
      go_wp2_with fail
      refine Calls.mono HBy2.out ?_
      rintro e w4 ⟨hB4, hm⟩
      simp only at hm
      subst hm
      have HB4 := Lib.hid (H3.out.2.2.2.2.trans (hB4.mono H3.out.2.2.2.2.size))
      clear hB4
      go_wp2_with fail
      go_ret3
      exact HPe.out _ S n H3.out.1 (by rw [H3.out.2.1]; exact HBE.out) HB4.out
    | inr l =>
      rw [hby] at HBy
      have HBy2 := Lib.hid HBy
      have HBE := Lib.hid hby
      clear HBy hby
      go_wp2_with fail
      refine Calls.mono HBy2.out ?_
      rintro e w4 ⟨hB4, hm⟩
      simp only at hm
      obtain ⟨vt, rfl, hvt⟩ := hm
      have hP4 := H3.out.2.2.2.1.keep hB4
      obtain ⟨A, c, rfl, -⟩ := hP4.szs.form
      have p5 : w4.cell? ⟨p, 5, none⟩ = some (.slice A S.length c) := hP4.pr.cell 5
      have hp4 := hP4.lt
      obtain ⟨A2, c2, rfl, -⟩ := hvt.form
      have H4 := Lib.hid (And.intro hP4.szs (H3.out.2.2.2.2.trans (hB4.mono H3.out.2.2.2.2.size)))
      clear hP4 hB4 hvt
      go_wp2_with fail
      go_ret3
      exact HPo.out _ S l _ H3.out.1 (by rw [H3.out.2.1]; exact HBE.out) H4.out.2 H4.out.1 H3.out.2.2.1
end
end Go.Proofs

/- patinalaw05.AsmReaches: the plain law joined with leads, sizes and the answer of Assemble. -/
namespace Go.Proofs
open Go Go.RowKit Go.Pat
theorem owns_len {w : World} {base n size : Nat} {e : TypeId} {v : Value} {xs : List Value} (h : w.ownsRow base e size v n xs) : n ≤ maxLen := by
  rcases h.2 with ⟨_, h0⟩ | ⟨g, cap, cur, _, _, _, h1, h2, _⟩
  · rw [h0]; exact Nat.zero_le _
  · exact Nat.le_trans h1 h2
section
variable (w : World) (TA : Option Addr) (tc : Nat) (text : List It) (DA : Option Addr) (dc : Nat) (data : List It) (at_ dat : Nat)
/-- what Assemble answers, in one form. -/
def AsmRes (e : Ending) (w' : World) : Prop :=
  Below w.heap.size w w' ∧ ∃ (S : List Int) (e0 : Int) (i0 : Nat) (vt vd vl : Value) (T D : List UInt8) (L : List Lab), Fin text data at_ dat S ∧ e = .returned (.tuple #[.agg #[vt, vd, vl], .int .i64 e0, .int .i64 (i0 : Int)]) ∧
    OwnB w' w.heap.size vt T ∧ OwnB w' w.heap.size vd D ∧ OwnL w' w.heap.size vl L ∧
    ((e0 ≠ 0 ∧ asmR text data at_ dat S = .inl (e0, i0) ∧ T = [] ∧ D = [] ∧ L = []) ∨ (e0 = 0 ∧ i0 = 0 ∧ asmR text data at_ dat S = .inr (T, D, L)))
theorem asmR_err {S : List Int} {x : Int × Nat} (h : asmR text data at_ dat S = .inl x) : x.1 ≠ 0 := by
  unfold asmR at h
  cases hb : begM text data at_ dat with
  | inl y =>
    rw [hb] at h
    obtain rfl := Sum.inl.inj h
    exact begM_err hb
  | inr F =>
    rw [hb] at h
    simp only at h
    cases h2 : bytM (layM text data S at_ dat F) 0 at_ (text.zip S) [] with
    | inl n =>
      rw [h2] at h
      obtain rfl := Sum.inl.inj h
      exact (by decide : (52 : Int) ≠ 0)
    | inr l =>
      rw [h2] at h
      cases h
theorem asmRes_of {e : Ending} {w' : World} (h : AsmTo w text data at_ dat e w') : AsmRes w text data at_ dat e w' := by
  obtain ⟨hB, S, hS, hm⟩ := h
  refine ⟨hB, ?_⟩
  cases hr : asmR text data at_ dat S with
  | inl x =>
    rw [hr] at hm
    exact ⟨S, x.1, x.2, _, _, _, [], [], [], hS, hm, OwnB.nil _ _, OwnB.nil _ _, OwnL.nil _ _, .inl ⟨asmR_err text data at_ dat hr, hr, rfl, rfl, rfl⟩⟩
  | inr y =>
    rw [hr] at hm
    obtain ⟨vt, vd, vl, he, h1, h2, h3⟩ := hm
    exact ⟨S, 0, 0, vt, vd, vl, _, _, _, hS, he, h1, h2, h3, .inr ⟨rfl, rfl, hr⟩⟩
end
theorem fin_two {text data : List It} {at_ dat : Nat} {S S2 : List Int} (h1 : Fin text data at_ dat S) (h2 : Fin text data at_ dat S2) : (∃ x, asmR text data at_ dat S = .inl x ∧ asmR text data at_ dat S2 = .inl x) ∨ S2 = S := by
  cases hbm : begM text data at_ dat with
  | inl x => exact .inl ⟨x, by simp only [asmR, hbm], by simp only [asmR, hbm]⟩
  | inr F => exact .inr ((h1 F hbm).one (h2 F hbm)).symm
theorem fin_same {text data : List It} {at_ dat : Nat} {S S2 : List Int} (h1 : Fin text data at_ dat S) (h2 : Fin text data at_ dat S2) : asmR text data at_ dat S2 = asmR text data at_ dat S := by
  rcases fin_two h1 h2 with ⟨x, e1, e2⟩ | rfl
  · rw [e1, e2]
  · rfl
/-- each item's place in the code, and where it leads. -/
def Reach (text : List It) (at_ : Nat) (S : List Int) (T : List UInt8) (L : List Lab) : Prop :=
  S.length = text.length ∧ text.length ≤ 1048576 ∧ ∃ o : Nat → Nat, o 0 = 0 ∧ o text.length = T.length ∧ ∀ k (hk : k < text.length) (hk2 : k < S.length), 0 ≤ S[k] ∧ S[k] ≤ 1048576 ∧ (o (k + 1) : Int) = o k + S[k] ∧ o (k + 1) ≤ T.length ∧
      ((text[k].k = 5 ∨ text[k].k = 6 ∨ text[k].k = 7) → S[k] ≤ 12 ∧ (findM L text[k].s).2 = true ∧ (findM L text[k].s).1 < 18446744073709551616 ∧ ItemTo5 T text[k] at_ (o k) (findM L text[k].s).1 S[k])
theorem reach_res {text data : List It} {at_ dat : Nat} {S : List Int} {T D : List UInt8} {L : List Lab} (hF : Fin text data at_ dat S) (h : asmR text data at_ dat S = .inr (T, D, L)) : Reach text at_ S T L := by
  cases hbm : begM text data at_ dat with
  | inl x =>
    simp only [asmR, hbm] at h
    cases h
  | inr F =>
    cases hb2 : bytM (layM text data S at_ dat F) 0 at_ (text.zip S) [] with
    | inl n =>
      simp only [asmR, hbm, hb2] at h
      cases h
    | inr l =>
      simp only [asmR, hbm, hb2] at h
      have h3 := Sum.inr.inj h
      simp only [Prod.mk.injEq] at h3
      obtain ⟨rfl, rfl, rfl⟩ := h3
      refine ⟨?_, by have := (begM_ok hbm).lim.2.2.2.2; omega, reached (begM_ok hbm) (hF F hbm) hb2⟩
      obtain ⟨⟨j, hj⟩, _⟩ := hF F hbm
      rw [hj]
      exact roundsM_length _ _ _ _ _ _
theorem Reach.short {text : List It} {at_ : Nat} {S : List Int} {T : List UInt8} {L : List Lab} (h : Reach text at_ S T L) : T.length ≤ 1000000000000000 := by
  obtain ⟨hl, ht, o, h0, hN, hk⟩ := h
  have key : ∀ k, k ≤ text.length → o k ≤ k * 1048576 := fun k => by
    induction k with
    | zero => intro _; omega
    | succ k ih =>
      intro hle
      have h1 := ih (by omega)
      have h2 := hk k (by omega) (by omega)
      omega
  have h3 := key _ (Nat.le_refl _)
  omega
theorem leads5_any (w : World) (A : Option Addr) (n c : Nat) (vd vl : Value) (T : List UInt8) (hT : Bs w.heap.size w A T) (hn : T.length = n) (hlen : n ≤ 1000000000000000) (base off size to : Nat) (x : It) (hto : to < 18446744073709551616)
    (h : ItemTo5 T x base off to (size : Int)) (hs2 : size ≤ 12) (hat : off + size ≤ n) :
    Calls Tryd.prog 23 #[.agg #[.slice A n c, vd, vl], .int .i64 (off : Int), .int .u64 ((wrN ((base : Int) + off) : Nat) : Int), .int .i64 (size : Int), .agg x.cs, .int .u64 (to : Int)] w (TrueTo2 w) := by
  have hw : wrN ((base : Int) + off) < 18446744073709551616 := by unfold wrN; omega
  rcases h with ⟨l, h1, h2, h3, h4, h5, h6⟩ | ⟨f, l, h1, h2, h3, h4, h5, h6, h7, h8, h9, h10⟩
  · exact leadsA_any w A n c vd vl T hT hn hlen off size _ to x l (by omega) hs2 hat hw hto h2 h3 h4 h5 (by rw [Int.toNat_natCast] at h6; exact h6)
  · exact leadsB_any w A n c vd vl T hT hn hlen off size _ to x f l (by omega) hs2 hat hw hto h2 h3 h4 h5 h6 h7 h8 (by rw [Int.toNat_natCast] at h9; exact h9) (by rw [Int.toNat_natCast] at h10; exact h10)
theorem z_at {B : Nat} {w : World} {A : Option Addr} {l : List Int} (h : Cs B w A (zcells l)) (k : Nat) (hk : k < l.length) : ∃ b o, A = some ⟨b, o, none⟩ ∧ b < B ∧ w.cell? ⟨b, o + k, none⟩ = some (.int .i64 l[k]) := by
  obtain ⟨b, o, rfl, hb, h0⟩ := h k (by rw [zcells_length]; exact hk)
  simp only [zcells, List.getElem_map] at h0
  exact ⟨b, o, rfl, hb, h0⟩
section
variable (w : World) (TA : Option Addr) (tc : Nat) (text : List It) (DA : Option Addr) (dc : Nat) (data : List It) (at_ dat : Nat)
set_option maxRecDepth 20000 in
set_option maxHeartbeats 8000000 in
theorem AsmReaches_any (hT : Cs w.heap.size w TA (tcells text)) (hD : Cs w.heap.size w DA (tcells data)) (hns : ∀ x ∈ text ++ data, x.s.size ≤ maxLen) (hni : ∀ x ∈ text ++ data, -9223372036854775808 ≤ x.n ∧ x.n < 9223372036854775808)
    (htz : TzTab w) (hrv : RvRows w) (htl : text.length ≤ maxLen) (hdl : data.length ≤ maxLen) (hat : at_ < 18446744073709551616) (hdat : dat < 18446744073709551616) :
    Calls Tryd.prog 6 #[.agg #[.slice TA text.length tc, .slice DA data.length dc, .int .u64 (at_ : Int), .int .u64 (dat : Int)]] w (TrueTo w) := by
  have HS := Lib.hid (fun W (hW : Below w.heap.size w W) => small5_any W (hrv.below hW) (htz.below hW))
  have HW := Lib.hid (fun W (hW : Below w.heap.size w W) => wide5_any W TA tc text DA dc data (at_ : Int) (dat : Int) ((hT.below hW).more hW.size) ((hD.below hW).more hW.size) htl hdl)
  have HA := Lib.hid (fun W (hW : Below w.heap.size w W) => (aAsm_any W TA tc text DA dc data at_ dat ((hT.below hW).more hW.size) ((hD.below hW).more hW.size) hns hni (htz.below hW) (hrv.below hW) htl hdl hat hdat).mono fun e w' h => asmRes_of W text data at_ dat h)
  have HZ := Lib.hid (fun W (hW : Below w.heap.size w W) => aSizes_any W TA tc text DA dc data at_ dat ((hT.below hW).more hW.size) ((hD.below hW).more hW.size) hns hni (htz.below hW) (hrv.below hW) htl hdl hat hdat)
  have HT := Lib.hid hT
  have HTL := Lib.hid htl
  have hc1 := heap_alloc_new w (.cells #[.slice TA text.length tc, .slice DA data.length dc, .int .u64 (at_ : Int), .int .u64 (dat : Int)] 40)
  have HC1 := Lib.hid hc1
  clear hT hD hns hni htz hrv htl hdl hc1
  go_enter Tryd.func6, Tryd.ntmps6
  go_wp2_with (go_at_call 16
               with_reducible refine (HW.out _ (form1 w _)).mono ?_
               rintro e w2 ⟨b, rfl, hB2⟩
               have hc2 := (hB2.block w.heap.size (by rw [World.size_alloc]; omega)).trans HC1.out
               have g0 := (obj_cell hc2 0).trans rfl
               have g1 := (obj_cell hc2 1).trans rfl
               have g2 := (obj_cell hc2 2).trans rfl
               have g3 := (obj_cell hc2 3).trans rfl
               have HB := Lib.hid (And.intro ((form1 w _).trans (hB2.mono (form1 w _).size)) hc2)
               have hl2 := lt_of_block hc2
               clear hB2 hc2)
  · with_reducible refine Calls.mono (HS.out _ HB.out.1) ?_
    rintro e w' ⟨rfl, hB⟩
    go_wp2_with fail
    go_ret
    exact ⟨rfl, HB.out.1.trans (hB.mono HB.out.1.size)⟩
  · with_reducible refine Calls.mono (HA.out _ HB.out.1) ?_
    rintro e w3 ⟨hB3, S, e0, i0, vt, vd, vl, T, D, L, hS, rfl, o1, o2, o3, ha1⟩
    obtain ⟨At, ct, rfl, h1⟩ := o1.form
    obtain ⟨Ad, cd, rfl, h2⟩ := o2.form
    obtain ⟨Al, cl, rfl, h3⟩ := o3.form
    have hllen : L.length ≤ 9223372036854775807 := by
      have h0 := owns_len o3
      unfold maxLen at h0
      omega
    have hc3 := (hB3.block w.heap.size hl2).trans HB.out.2
    have k0 := (obj_cell hc3 0).trans rfl
    have k1 := (obj_cell hc3 1).trans rfl
    have k2 := (obj_cell hc3 2).trans rfl
    have k3 := (obj_cell hc3 3).trans rfl
    have hl3 := lt_of_block hc3
    have H3 := Lib.hid (And.intro h1 (And.intro h3 (And.intro hc3 (HB.out.1.trans (hB3.mono HB.out.1.size)))))
    have H3S := Lib.hid (And.intro hS ha1)
    clear hB3 hS ha1 o1 o2 o3 h1 h2 h3 hc3 g0 g1 g2 g3
    go_wp2_with fail
    with_reducible refine Calls.mono (HZ.out _ (H3.out.2.2.2.alloc H3.out.2.2.2.size _)) ?_
    rintro e w5 ⟨hB5, S2, hS2, hm⟩
    have hsame := fin_same H3S.out.1 hS2
    rw [hsame] at hm
    have hB35 : Below w3.heap.size w3 w5 := (form1 w3 _).trans (hB5.mono (form1 w3 _).size)
    have hcA := (hB5.block w3.heap.size (by rw [World.size_alloc]; omega)).trans (heap_alloc_new w3 (.cells #[.slice At T.length ct, .slice Ad D.length cd, .slice Al L.length cl] 45))
    have hB05 := H3.out.2.2.2.trans (hB35.mono H3.out.2.2.2.size)
    rcases H3S.out.2 with ⟨hne, he, -, -, -⟩ | ⟨rfl, rfl, he⟩
    · rw [he] at hm
      simp only at hm
      subst hm
      have te : (e0 != 0) = true := by simpa using hne
      have te2 : (e0 == e0) = true := by simp
      have HB5 := Lib.hid hB05
      clear hB5 hsame hB35 hcA hB05 hS2 he hne
      go_wp2_with fail
      with_reducible refine Calls.mono (HS.out _ HB5.out) ?_
      rintro e w' ⟨rfl, hB⟩
      go_wp2_with fail
      go_ret
      exact ⟨rfl, HB5.out.trans (hB.mono HB5.out.size)⟩
    · have hre := reach_res hS2 (hsame.trans he)
      rw [he] at hm
      obtain ⟨v, rfl, hv, hl⟩ := hm
      obtain ⟨Az, cz, rfl, hz⟩ := hv.form
      rw [hl]
      have hcC := (hB35.block w.heap.size hl3).trans H3.out.2.2.1
      have q0 := (obj_cell hcC 0).trans rfl
      have a0 := (obj_cell hcA 0).trans rfl
      have hlC := lt_of_block hcC
      have hlA := lt_of_block hcA
      have HX := Lib.hid (And.intro hB05 (And.intro hcC (And.intro hcA (And.intro hz (And.intro ((H3.out.1.below hB35).more hB35.size) ((H3.out.2.1.below hB35).more hB35.size))))))
      have htlen := hre.short
      obtain ⟨_, _, o, ho0, hoN, hok⟩ := hre
      have HO := Lib.hid (And.intro ho0 (And.intro hoN (And.intro hl hok)))
      have HN := Lib.hid (And.intro htlen hllen)
      clear hB5 hsame hB35 hcA hB05 hS2 he hv hz hl hcC ho0 hoN hok
      go_wp2_with fail
      go_loopw [9, 65] (fun a i wr => ∃ (k : Nat), k ≤ text.length ∧ i = .int .i64 k ∧ a = .int .i64 ((o k : Nat) : Int) ∧ Below w5.heap.size w5 wr) (fun _ i _ => text.length - (intOf i).toNat)
      case atStart => exact ⟨0, Nat.zero_le _, rfl, by rw [HO.out.1]; rfl, Below.refl _ _⟩
      case round =>
        obtain ⟨k, hk, rfl, rfl, hB⟩ := hrel
        have cC := (hB.block w.heap.size hlC).trans HX.out.2.1
        have cA := (hB.block w3.heap.size hlA).trans HX.out.2.2.1
        have c0 := (obj_cell cC 0).trans rfl
        have c2 := (obj_cell cC 2).trans rfl
        have b0 := (obj_cell cA 0).trans rfl
        have b1 := (obj_cell cA 1).trans rfl
        have b2 := (obj_cell cA 2).trans rfl
        have hlC2 := lt_of_block cC
        have hlA2 := lt_of_block cA
        by_cases hlt : k < text.length
        · have t1 : decide ((k : Int) < (text.length : Int)) = true := decide_eq_true (by omega)
          have hku : (k : Int) < (text.length : Int) := by omega
          have hkS : k < S2.length := by have := HO.out.2.2.1; omega
          obtain ⟨f0, f1, f2, f3, f4⟩ := HO.out.2.2.2 k hlt hkS
          obtain ⟨bz, oz, rfl, hbz, z0⟩ := z_at (HX.out.2.2.2.1.below hB) k hkS
          obtain ⟨b, o9, rfl, hb, x0, x1, x2, x3, x4, x5, x6⟩ := item_at (((HT.out.below HX.out.1).more HX.out.1.size).below hB) k hlt
          obtain ⟨sk, hsk⟩ : ∃ sk : Nat, S2[k] = (sk : Int) := ⟨S2[k].toNat, by omega⟩
          rw [hsk] at z0 f1 f2 f4
          have HL5 : (text[k].k = 5 ∨ text[k].k = 6 ∨ text[k].k = 7) → (findM L text[k].s).2 = true ∧ ∀ W, Below w5.heap.size w5 W → Calls Tryd.prog 23 #[.agg #[.slice At T.length ct, .slice Ad D.length cd, .slice Al L.length cl], .int .i64 ((o k : Nat) : Int), .int .u64 ((wrN ((at_ : Int) + (o k : Nat)) : Nat) : Int), .int .i64 (sk : Int), .agg #[.int .i64 (text[k]).k, .string (text[k]).s, .int .i64 (text[k]).op, .int .i64 (text[k]).rd, .int .i64 (text[k]).a, .int .i64 (text[k]).b, .int .i64 (text[k]).n], .int .u64 ((findM L text[k].s).1 : Int)] W (TrueTo2 W) := fun hk5 => by
            obtain ⟨j1, j2, j3, j4⟩ := f4 hk5
            exact ⟨j2, fun W hW => leads5_any W At T.length ct _ _ T ((HX.out.2.2.2.2.1.below hW).more hW.size) rfl HN.out.1 at_ (o k) sk _ text[k] j3 j4 (by omega) (by omega)⟩
          have HF0 := fun W (hW : Below w5.heap.size w5 W) => aFind_any W (.slice At T.length ct) (.slice Ad D.length cd) Al L.length cl L text[k].s ((HX.out.2.2.2.2.2.below hW).more hW.size) rfl HN.out.2
          have tA : decide ((T.length : Int) < ((o k : Nat) : Int) + (sk : Int)) = false := decide_eq_false (by omega)
          have tB : decide ((sk : Int) < 0) = false := decide_eq_false (by omega)
          have HO2 := Lib.hid (show ((o (k + 1) : Nat) : Int) = ((o k : Nat) : Int) + (sk : Int) from f2)
          have hol : o k + sk ≤ 1000000000000000 := by have := HN.out.1; omega
          have hNT := HN.out.1
          obtain ⟨⟨to, okb⟩, hfm⟩ : ∃ z, findM L text[k].s = z := ⟨_, rfl⟩
          rw [hfm] at HL5 HF0
          simp only at HL5 HF0
          have hfr : IntKind.u64.wrap ((at_ : Int) + ((o k : Nat) : Int)) = ((wrN ((at_ : Int) + (o k : Nat)) : Nat) : Int) := (wrN_is _).symm
          generalize wrN ((at_ : Int) + (o k : Nat)) = fr at *
          generalize o k = ok at *
          generalize text[k].k = v0 at *
          generalize text[k].s = v1 at *
          generalize text[k].op = v2 at *
          generalize text[k].rd = v3 at *
          generalize text[k].a = v4 at *
          generalize text[k].b = v5 at *
          generalize text[k].n = v6 at *
          obtain ⟨W1, hW1⟩ : ∃ W1, W1 = wr.alloc (.cells #[.int .i64 v0, .string v1, .int .i64 v2, .int .i64 v3, .int .i64 v4, .int .i64 v5, .int .i64 v6] 61) := ⟨_, rfl⟩
          have hB1 : Below wr.heap.size wr W1 := by rw [hW1]; exact form1 wr _
          have hbl : W1.heap[wr.heap.size]? = some (.cells #[.int .i64 v0, .string v1, .int .i64 v2, .int .i64 v3, .int .i64 v4, .int .i64 v5, .int .i64 v6] 61 (0, 0)) := by rw [hW1]; exact heap_alloc_new wr _
          have y0 := (obj_cell hbl 0).trans rfl
          have y1 := (obj_cell hbl 1).trans rfl
          have hyl := lt_of_block hbl
          have hbz2 : bz < wr.heap.size := Nat.lt_of_lt_of_le hbz hB.size
          have z1 := (hB1.cell (p := ⟨bz, oz + k, none⟩) hbz2).trans z0
          have hbz3 := Nat.lt_of_lt_of_le hbz2 hB1.size
          have cC1 := (hB1.block w.heap.size hlC2).trans cC
          have cA1 := (hB1.block w3.heap.size hlA2).trans cA
          have d0 := (obj_cell cA1 0).trans rfl
          have d1 := (obj_cell cA1 1).trans rfl
          have d2 := (obj_cell cA1 2).trans rfl
          have hlA1 := lt_of_block cA1
          have hB51 := hB.trans (hB1.mono hB.size)
          have hWd : Below W1.heap.size W1 W1 := Below.refl _ _
          have HW1 := Lib.hid hW1
          have HY := Lib.hid (And.intro hB51 (And.intro hbl (And.intro cC1 (And.intro cA1 (And.intro z1 hWd)))))
          clear hB1 hW1 hB51 hWd hfm f0 f1 f2 f3 f4 hsk hbl cC1 cA1 hB cC cA
          by_cases hj : v0 = 5 ∨ v0 = 6 ∨ v0 = 7
          · obtain ⟨hjb, HL50⟩ := HL5 hj
            subst hjb
            have HL5 := Lib.hid HL50
            have HF := Lib.hid HF0
            have hjj : (v0 == 5) = true ∨ ((v0 == 5) = false ∧ (v0 == 6) = true) ∨ ((v0 == 5) = false ∧ (v0 == 6) = false ∧ (v0 == 7) = true) := by
              rcases hj with rfl | rfl | rfl <;> decide
            clear HL50 HF0 hj
            rcases hjj with t5 | ⟨t5, t6⟩ | ⟨t5, t6, t7⟩
            all_goals
              go_upto_region 13 with fail
              rw [← HW1.out]
              go_quiet (fail)
              go_wp2_with (go_at_call 20
                           with_reducible refine (HF.out _ (bdrewN HY.out.1 _)).mono ?_
                           rintro e w8 ⟨rfl, hB8⟩
                           have hB18 := (bdrewN HY.out.2.2.2.2.2 _).trans (hB8.mono (bdrewN HY.out.2.2.2.2.2 _).size)
                           have hB58 := HY.out.1.trans (hB18.mono HY.out.1.size)
                           have yb8 := (hB18.block wr.heap.size hyl).trans HY.out.2.1
                           have cC8 := (hB18.block w.heap.size (lt_of_block HY.out.2.2.1)).trans HY.out.2.2.1
                           have cA8 := (hB18.block w3.heap.size (lt_of_block HY.out.2.2.2.1)).trans HY.out.2.2.2.1
                           have z8 := (hB18.cell (p := ⟨bz, oz + k, none⟩) hbz3).trans HY.out.2.2.2.2.1
                           have hbz8 := Nat.lt_of_lt_of_le hbz3 hB18.size
                           have q2 := (obj_cell cC8 2).trans rfl
                           have r0 := (obj_cell cA8 0).trans rfl
                           have r1 := (obj_cell cA8 1).trans rfl
                           have r2 := (obj_cell cA8 2).trans rfl
                           have s0 := (obj_cell yb8 0).trans rfl
                           have s1 := (obj_cell yb8 1).trans rfl
                           have s2 := (obj_cell yb8 2).trans rfl
                           have s3 := (obj_cell yb8 3).trans rfl
                           have s4 := (obj_cell yb8 4).trans rfl
                           have s5 := (obj_cell yb8 5).trans rfl
                           have s6 := (obj_cell yb8 6).trans rfl
                           have ly8 := lt_of_block yb8
                           have lC8 := lt_of_block cC8
                           have lA8 := lt_of_block cA8
                           have H8 := Lib.hid (And.intro hB58 z8)
                           have HL8 := Lib.hid (HL5.out w8.drew hB58.drew)
                           clear hB18 hB58 yb8 cC8 cA8 hB8)
              go_still_tail 12, (by kernel_rfl)
              go_wp2_with (go_at_call 23
                           with_reducible refine HL8.out.mono ?_
                           rintro e w9 ⟨rfl, hB9⟩
                           have hB59 := H8.out.1.drew.trans (hB9.mono H8.out.1.drew.size)
                           have z9 := (hB9.cell (p := ⟨bz, oz + k, none⟩) hbz8).trans H8.out.2
                           have hbz9 := Nat.lt_of_lt_of_le hbz8 hB9.size
                           have H9 := Lib.hid hB59
                           clear hB59 hB9)
              go_roundw
              case rel => exact ⟨k + 1, by omega, by go_num, by rw [HO2.out], H9.out⟩
              case measure => simp [intOf]; omega
          · have t5 : (v0 == 5) = false := by simp; omega
            have t6 : (v0 == 6) = false := by simp; omega
            have t7 : (v0 == 7) = false := by simp; omega
            clear HL5 HF0 hj
            go_upto_region 13 with fail
            rw [← HW1.out]
            go_quiet (fail)
            go_wp2_with fail
            go_roundw
            case rel => exact ⟨k + 1, by omega, by go_num, by rw [HO2.out], bdrewN HY.out.1 _⟩
            case measure => simp [intOf]; omega
        · have t1 : decide ((k : Int) < (text.length : Int)) = false := decide_eq_false (by omega)
          obtain rfl : k = text.length := by omega
          have hoN := HO.out.2.1
          rw [hoN]
          have hBw := HX.out.1.trans (hB.mono HX.out.1.size)
          have HBw := Lib.hid hBw
          clear hBw hoN cC cA hB
          go_wp2_with fail
          with_reducible refine Calls.mono (HS.out _ HBw.out) ?_
          rintro e w' ⟨rfl, hB9⟩
          go_wp2_with fail
          go_ret
          exact ⟨rfl, HBw.out.trans (hB9.mono HBw.out.size)⟩
end
end Go.Proofs

/- patinalaw05.AsmReaches: its proof. -/
/- patinalaw05.AsmReaches answers true for every input, and leaves its arguments as they were; the card ties the tables of patina/rv and of math/bits to the program's text. No condition but the tied one. -/
namespace Go.Proofs.YtemngapfnkokiaaDoor
open Go Go.ChangeShapes Go.WideShapes Go.ChangeAt Go.RowKit Go.Pat Go.Joins Go.WideMaps Go.WideElems

theorem own : ownKnob Tryd.prog.godebug = none := by kernel_rfl
theorem laidOut : laidOutB Tryd.prog = true := by kernel_rfl
theorem door_met (os : Os) (args : Array Value) : laidMetH Tryd.prog Rows.asmReachesRow.laid ((World.doorLaid Tryd.prog 84 os).forCall (fun _ _ => 0) ⟨#[], args, []⟩).memory :=
  laidMetH_of_parts3 (fuel := 8) (laidMet_of_run' 8 (by kernel_rfl) (by kernel_rfl)) (by kernel_rfl) (by kernel_rfl)

set_option maxRecDepth 100000 in
set_option maxHeartbeats 1000000 in
theorem asmReaches_lifted (os : Os) (started : os.Started) (H : Type) (enc : TypeId × Value → H) :
    ReturnsInHanded {} Tryd.checked os 6 .any (fun w args => (Rows.asmReachesSpec.pre enc Tryd.prog Tryd.f6 [] false w args ∧ laidMetH Tryd.prog Rows.asmReachesRow.laid w) ∧ sizedMet enc Tryd.prog Tryd.f6 (OpenSpec.ofChange Rows.asmReachesSpec) false w args)
      (Rows.asmReachesSpec.post enc Tryd.prog Tryd.f6 false true false false) := by
  refine returnsInHanded_of_change_and (C := Tryd.checked) (X := fun w _ => laidMetH Tryd.prog Rows.asmReachesRow.laid w) (fun _ _ _ hh h => h.of_heap hh) own started (by kernel_rfl) Tryd.func6
    (ChangeSpec.witness_shaped (enc := enc) (C := Tryd.checked) (os := os) (X := fun w _ => laidMetH Tryd.prog Rows.asmReachesRow.laid w) false (World.doorLaid Tryd.prog 84 os) #[.agg #[.slice none 0 0, .slice none 0 0, .int .u64 0, .int .u64 0]] 8 rfl (World.shaped_of_RefB (by kernel_rfl) (by kernel_rfl)) (by kernel_rfl) (by kernel_rfl) (by kernel_rfl) (door_met os _)) ?_
  intro W base args ds gs before hval0 hW hcnd hsz0 hL _
  have hval : ∀ (j : Nat) t v, Tryd.f6.params[j]? = some t → args[j]? = some v → Value.okWide Tryd.prog W .any base t v := hval0
  have hW' := hW
  obtain ⟨p, q, hA0, hV, rfl, hfz, hnd⟩ := hW
  have hA : DataW.TrodAll enc Tryd.prog W 0 (fun _ => true) true Tryd.f6.params.toList args.toList ds p := hA0
  have hA1 := hA
  rw [Tryd.params6] at hA hval
  obtain ⟨v0, d0, rfl, rfl, h0⟩ := trodAll_one hA
  obtain ⟨rfl, rfl⟩ := trodVars_none hV
  rw [List.append_nil] at hW'
  obtain ⟨cs, rfl, -⟩ := okWide_struct Tryd.underlying40 (hval 0 40 v0 rfl rfl)
  obtain ⟨fuel0, hf0⟩ := h0
  obtain ⟨TA, tc, text, DA, dc, data, at_, dat, e0, hT, hD, hy, htl, hdl, hat, hdat⟩ := open_case5 hf0
  have e1 : cs = #[.slice TA text.length tc, .slice DA data.length dc, .int .u64 (at_ : Int), .int .u64 (dat : Int)] := by
    have e2 : cs.toList = [.slice TA text.length tc, .slice DA data.length dc, .int .u64 (at_ : Int), .int .u64 (dat : Int)] := e0
    exact Array.toList_inj.1 (e2.trans rfl)
  subst e1
  obtain ⟨hTz, hRv⟩ := tabs_laid hL
  refine (AsmReaches_any W TA tc text DA dc data at_ dat hT hD (fun y h => (hy y h).1) (fun y h => (hy y h).2) hTz hRv htl hdl hat hdat).mono fun e W' ⟨he, hw⟩ => ?_
  subst he
  exact ⟨_, rfl, post_below hW' hA1 laidOut (by rw [Tryd.params6]; intro t ht; simp only [List.mem_cons, List.not_mem_nil, or_false] at ht; rcases ht with rfl <;> exact ⟨by kernel_rfl, of_decide_eq_true (by kernel_rfl)⟩) hw rfl rfl rfl (fun _ _ _ => trodAll_mk1 (shut_bool Tryd.underlying4 _))⟩

set_option maxRecDepth 100000 in
theorem asmReaches_said : Rows.AsmReachesSaid :=
  OpenClaim.holds_of_wide 6 Tryd.f6 rfl rfl rfl rfl rfl rfl rfl ⟨rfl, rfl, rfl, rfl, rfl⟩ rfl rfl rfl rfl rfl (by kernel_rfl) Tryd.func6 (by kernel_rfl)
    (of_decide_eq_true (by kernel_rfl)) (by unfold Func.isWrapper; first | (rw [if_pos (by decide +kernel)]; kernel_rfl) | (rw [if_neg (by decide +kernel)]; exact ⟨rfl, rfl⟩))
    (fun os started H enc _ => asmReaches_lifted os started H enc)

set_option maxRecDepth 100000 in
theorem asmReaches_holds : Rows.AsmReachesCardSaid :=
  Claim7.holds_tied_plain_at .later [] [.data, .data] true Rows.asmReachesCard.stood.harness false
    asmReaches_said (fun _ h => by cases h) (by kernel_rfl) (fun _ h => by cases h) asmReaches_row_tie rfl ⟨rfl, rfl⟩ (by kernel_rfl) rfl
    (fun f fn hf hfn => by
      obtain rfl : f = 6 := Option.some.inj ((show Tryd.prog.funcNamed "patina/patinalaw05.AsmReaches" = some 6 by kernel_rfl).symm.trans hf) |>.symm
      obtain rfl : fn = Tryd.f6 := (Option.some.inj (Tryd.func6.symm.trans hfn)).symm
      exact ⟨by kernel_rfl, fun j t ht => by
        rw [Tryd.params6] at ht
        have hm : t ∈ [40] := by simpa using Array.mem_of_getElem? ht
        have hall : ([40].all fun u => !Tryd.prog.wantsStandIn u) = true := by kernel_rfl
        exact (show Tryd.prog.wantsStandIn t = false by simpa using List.all_eq_true.1 hall t hm)⟩)
    (by kernel_rfl)
#print axioms asmReaches_holds
end Go.Proofs.YtemngapfnkokiaaDoor
