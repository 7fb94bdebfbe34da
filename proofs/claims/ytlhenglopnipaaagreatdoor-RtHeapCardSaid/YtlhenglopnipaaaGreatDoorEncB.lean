/- What is encoded is decoded again: auipc, jal, jalr and the branches (plain). (Printed by wip/tools/gen_encp.py, then unlint.py.) -/
import Derived.Test.YtlhenglopnipaaaGreatDoorEnc
namespace Go.Pat
open Go Go.RowKit Go.Proofs
theorem decGo_first {w op : Nat} : ∀ (k o : Nat), o ≤ op → op < o + k → (∀ j, o ≤ j → j < op → fitsR j w = false) → fitsR op w = true → decGo w k o = some op
  | 0, o, h1, h2, _, _ => by omega
  | k + 1, o, h1, h2, h3, h4 => by
    unfold decGo
    by_cases he : o = op
    · subst he
      rw [if_pos h4]
    · have := h3 o (Nat.le_refl _) (by omega)
      rw [if_neg (by rw [this]; decide)]
      exact decGo_first k (o + 1) (by omega) (by omega) (fun j a b => h3 j (by omega) b) h4
theorem dec_first {w op : Nat} (h1 : 1 ≤ op) (h2 : op < 66) (hx : w < 4294967296) (h3 : ∀ j, 1 ≤ j → j < op → fitsR j w = false) (h4 : fitsR op w = true) : decR w = some (gIns op w) := by
  unfold decR
  rw [decGo_first 65 1 h1 (by omega) h3 h4, gIns_fits op w h1 h2 hx h4]
  rfl
theorem sgn_of12 (n : Int) (h : -2048 ≤ n ∧ n ≤ 2047) : ∃ v : Nat, v < 4096 ∧ n = sgn v 12 := ⟨(n % 4096).toNat, by omega, by unfold sgn; split <;> omega⟩
theorem sgn_of20 (n : Int) (h : -524288 ≤ n ∧ n ≤ 524287) : ∃ v : Nat, v < 1048576 ∧ n = sgn v 20 := ⟨(n % 1048576).toNat, by omega, by unfold sgn; split <;> omega⟩
theorem sgn_of21 (n : Int) (h : -1048576 ≤ n ∧ n ≤ 1048574) (h2 : n % 2 = 0) : ∃ v : Nat, v < 2097152 ∧ v % 2 = 0 ∧ n = sgn v 21 := ⟨(n % 2097152).toNat, by omega, by omega, by unfold sgn; split <;> omega⟩
theorem head0 (c f d a b : Nat) (h1 : c < 128) (h2 : f < 8) (h3 : d < 32) (h4 : a < 32) (h5 : b < 32) : headN c f d a b = c + d * 128 + f * 4096 + a * 32768 + b * 1048576 := or5 c f d a b h1 h2 h3 h4 h5
theorem divs (x lo k q : Nat) (hx : x = lo + q * k) (hl : lo < k) : x / k = q := by
  subst hx
  rw [Nat.add_mul_div_right _ _ (by omega), Nat.div_eq_of_lt hl, Nat.zero_add]
theorem divmod (x lo k q m r : Nat) (hx : x = lo + (r + q * m) * k) (hl : lo < k) (hr : r < m) : x / k % m = r := by
  rw [divs x lo k (r + q * m) hx hl, Nat.add_mul_mod_self_right, Nat.mod_eq_of_lt hr]
theorem mods (x r k q : Nat) (hx : x = r + q * k) (hr : r < k) : x % k = r := by
  subst hx
  rw [Nat.add_mul_mod_self_right, Nat.mod_eq_of_lt hr]
theorem dig21 (v : Nat) (h2 : v % 2 = 0) : v = v / 2 % 1024 * 2 + v / 2048 % 2 * 2048 + v / 4096 % 256 * 4096 + v / 1048576 * 1048576 := by
  rw [show v / 2048 = v / 2 / 1024 by rw [Nat.div_div_eq_div_mul], show v / 4096 = v / 2 / 1024 / 2 by rw [Nat.div_div_eq_div_mul, Nat.div_div_eq_div_mul], show v / 1048576 = v / 2 / 1024 / 2 / 256 by rw [Nat.div_div_eq_div_mul, Nat.div_div_eq_div_mul, Nat.div_div_eq_div_mul]]
  have hu : v = v / 2 * 2 := by omega
  generalize v / 2 = u at *
  have a1 := Nat.div_add_mod u 1024
  have a2 := Nat.div_add_mod (u / 1024) 2
  have a3 := Nat.div_add_mod (u / 1024 / 2) 256
  generalize u % 1024 = r1 at *
  generalize u / 1024 % 2 = r2 at *
  generalize u / 1024 / 2 % 256 = r3 at *
  generalize u / 1024 / 2 / 256 = r4 at *
  generalize u / 1024 / 2 = r5 at *
  generalize u / 1024 = r6 at *
  clear h2
  omega
theorem dg_J (d f p e t x : Nat) (hd : d < 32) (hf : f < 256) (hp : p < 2) (he : e < 1024) (_ht : t < 2) (hx : x = 111 + d * 128 + f * 4096 + p * 1048576 + e * 2097152 + t * 2147483648) : x % 128 = 111 ∧ x / 128 % 32 = d ∧ x / 2097152 % 1024 = e ∧ x / 1048576 % 2 = p ∧ x / 4096 % 256 = f ∧ x / 2147483648 = t :=
  ⟨mods x 111 128 (d + f * 32 + p * 8192 + e * 16384 + t * 16777216) (by omega) (by decide), divmod x (111) 128 (f + p * 256 + e * 512 + t * 524288) 32 d (by omega) (by omega) hd, divmod x (111 + d * 128 + f * 4096 + p * 1048576) 2097152 (t) 1024 e (by omega) (by omega) he, divmod x (111 + d * 128 + f * 4096) 1048576 (e + t * 1024) 2 p (by omega) (by omega) hp, divmod x (111 + d * 128) 4096 (p + e * 2 + t * 2048) 256 f (by omega) (by omega) hf, divs x (111 + d * 128 + f * 4096 + p * 1048576 + e * 2097152) 2147483648 t (by omega) (by omega)⟩
theorem dg_I (d a v x : Nat) (hd : d < 32) (ha : a < 32) (_hv : v < 4096) (hx : x = 103 + d * 128 + a * 32768 + v * 1048576) : x % 128 = 103 ∧ x / 4096 % 8 = 0 ∧ x / 128 % 32 = d ∧ x / 32768 % 32 = a ∧ x / 1048576 = v :=
  ⟨mods x 103 128 (d + a * 256 + v * 8192) (by omega) (by decide), divmod x (103 + d * 128) 4096 (a + v * 32) 8 0 (by omega) (by omega) (by decide), divmod x (103) 128 (a * 8 + v * 256) 32 d (by omega) (by omega) hd, divmod x (103 + d * 128) 32768 (v) 32 a (by omega) (by omega) ha, divs x (103 + d * 128 + a * 32768) 1048576 v (by omega) (by omega)⟩
theorem wd_J (d v : Nat) (hd : d < 32) (hv : v < 2097152) : rwordN 74 111 0 0 d 0 0 (sgn v 21) = 111 + d * 128 + v / 4096 % 256 * 4096 + v / 2048 % 2 * 1048576 + v / 2 % 1024 * 2097152 + v / 1048576 * 2147483648 := by
  show headN 111 0 d 0 0 ||| bitI (sgn v 21) 12 8 * 4096 ||| bitI (sgn v 21) 11 1 * 1048576 ||| bitI (sgn v 21) 1 10 * 2097152 ||| bitI (sgn v 21) 20 1 * 2147483648 = _
  obtain ⟨e1, e2, e3, e4⟩ := bitI_sgn21 v hv
  have b1 : v / 4096 % 256 < 256 := Nat.mod_lt _ (by decide)
  have b2 : v / 2048 % 2 < 2 := Nat.mod_lt _ (by decide)
  have b3 : v / 2 % 1024 < 1024 := Nat.mod_lt _ (by decide)
  rw [e1, e2, e3, e4, head0 111 0 d 0 0 (by decide) (by decide) hd (by decide) (by decide)]
  generalize v / 4096 % 256 = f at *
  generalize v / 2048 % 2 = p at *
  generalize v / 2 % 1024 = e at *
  generalize v / 1048576 = t at *
  rw [show f * 4096 = f * 2 ^ 12 from rfl, or_add _ f 12 (by omega), show p * 1048576 = p * 2 ^ 20 from rfl, or_add _ p 20 (by omega), show e * 2097152 = e * 2 ^ 21 from rfl, or_add _ e 21 (by omega), show t * 2147483648 = t * 2 ^ 31 from rfl, or_add _ t 31 (by omega)]
  omega
theorem wd_I (d a v : Nat) (hd : d < 32) (ha : a < 32) (hv : v < 4096) : rwordN 73 103 0 0 d a 0 (sgn v 12) = 103 + d * 128 + a * 32768 + v * 1048576 := by
  show headN 103 0 d a 0 ||| bitI (sgn v 12) 0 12 * 1048576 = _
  rw [(bitI_sgn12 v hv).1, head0 103 0 d a 0 (by decide) (by decide) hd ha (by decide), show v * 1048576 = v * 2 ^ 20 from rfl, or_add _ v 20 (by omega)]
  omega
/-- an instruction that is encoded is decoded again. -/
def Back (op rd a b n : Int) : Prop := encZ op rd a b n < 4294967296 ∧ decR (encZ op rd a b n) = some ⟨op.toNat, rd.toNat, a.toNat, b.toNat, n⟩
theorem regB_t {r : Int} (h : regB r true = true) : ∃ k : Nat, r = k ∧ k < 32 := by
  simp [regB] at h
  exact ⟨r.toNat, by omega, by omega⟩
theorem regB_f {r : Int} (h : regB r false = true) : r = 0 := by simpa [regB] using h
theorem back_3 (rd a b n : Int) (h : rightI 3 rd a b n = true) : Back 3 rd a b n := by
  have hr := h
  unfold rightI at h
  simp only [Bool.and_eq_true] at h
  obtain ⟨d, rfl, hd⟩ := regB_t (show regB rd true = true from h.1.1.1.2)
  obtain rfl := regB_f (show regB a false = true from h.1.1.2)
  obtain rfl := regB_f (show regB b false = true from h.1.2)
  have hn : (-1048576 ≤ n ∧ n ≤ 1048574) ∧ n % 2 = 0 := by have h1 : immB1 74 n = true := h.2; simpa [immB1] using h1
  obtain ⟨v, hv, hv2, rfl⟩ := sgn_of21 n hn.1 hn.2
  have hz : encZ 3 d 0 0 (sgn v 21) = 111 + d * 128 + v / 4096 % 256 * 4096 + v / 2048 % 2 * 1048576 + v / 2 % 1024 * 2097152 + v / 1048576 * 2147483648 := by unfold encZ; rw [if_pos hr]; exact wd_J d v hd hv
  have hvs := dig21 v hv2
  have b1 : v / 4096 % 256 < 256 := Nat.mod_lt _ (by decide)
  have b2 : v / 2048 % 2 < 2 := Nat.mod_lt _ (by decide)
  have b3 : v / 2 % 1024 < 1024 := Nat.mod_lt _ (by decide)
  have b4 : v / 1048576 < 2 := by omega
  unfold Back
  rw [hz]
  generalize v / 4096 % 256 = f at *
  generalize v / 2048 % 2 = p at *
  generalize v / 2 % 1024 = e at *
  generalize v / 1048576 = t at *
  obtain ⟨x, hxe⟩ : ∃ x, 111 + d * 128 + f * 4096 + p * 1048576 + e * 2097152 + t * 2147483648 = x := ⟨_, rfl⟩
  rw [hxe]
  have hx : x < 4294967296 := by omega
  obtain ⟨m1, q1, q2, q3, q4, q5⟩ := dg_J d f p e t x hd b1 b2 b3 b4 hxe.symm
  have hf : ∀ j, 1 ≤ j → j < 3 → fitsR j x = false := fun j j1 j2 => by
    rcases (show j = 1 ∨ j = 2 by omega) with rfl | rfl
    · show fitsB 85 55 0 0 x = false
      simp [fitsB, fitsE, m1]
    · show fitsB 85 23 0 0 x = false
      simp [fitsB, fitsE, m1]
  have ht : fitsR 3 x = true := by
    show fitsB 74 111 0 0 x = true
    simp [fitsB, fitsE, m1]
  have hd := dec_first (by decide) (by decide) hx hf ht
  refine ⟨hx, hd.trans ?_⟩
  show some (⟨3, x / 128 % 32, 0, 0, sgn (x / 2097152 % 1024 * 2 + x / 1048576 % 2 * 2048 + x / 4096 % 256 * 4096 + x / 2147483648 * 1048576) 21⟩ : Ins) = some ⟨3, d, 0, 0, sgn v 21⟩
  rw [q1, q2, q3, q4, q5, ← hvs]
theorem back_4 (rd a b n : Int) (h : rightI 4 rd a b n = true) : Back 4 rd a b n := by
  have hr := h
  unfold rightI at h
  simp only [Bool.and_eq_true] at h
  obtain ⟨d, rfl, hd⟩ := regB_t (show regB rd true = true from h.1.1.1.2)
  obtain ⟨a, rfl, ha⟩ := regB_t (show regB a true = true from h.1.1.2)
  obtain rfl := regB_f (show regB b false = true from h.1.2)
  have hn : -2048 ≤ n ∧ n ≤ 2047 := by have h1 : immB1 73 n = true := h.2; simpa [immB1] using h1
  obtain ⟨v, hv, rfl⟩ := sgn_of12 n hn
  have hz : encZ 4 d a 0 (sgn v 12) = 103 + d * 128 + a * 32768 + v * 1048576 := by unfold encZ; rw [if_pos hr]; exact wd_I d a v hd ha hv
  unfold Back
  rw [hz]
  obtain ⟨x, hxe⟩ : ∃ x, 103 + d * 128 + a * 32768 + v * 1048576 = x := ⟨_, rfl⟩
  rw [hxe]
  have hx : x < 4294967296 := by omega
  obtain ⟨m1, m2, q1, q2, q3⟩ := dg_I d a v x hd ha hv hxe.symm
  have hf : ∀ j, 1 ≤ j → j < 4 → fitsR j x = false := fun j j1 j2 => by
    rcases (show j = 1 ∨ j = 2 ∨ j = 3 by omega) with rfl | rfl | rfl
    · show fitsB 85 55 0 0 x = false
      simp [fitsB, fitsE, m1, m2]
    · show fitsB 85 23 0 0 x = false
      simp [fitsB, fitsE, m1, m2]
    · show fitsB 74 111 0 0 x = false
      simp [fitsB, fitsE, m1, m2]
  have ht : fitsR 4 x = true := by
    show fitsB 73 103 0 0 x = true
    simp [fitsB, fitsE, m1, m2]
  have hd := dec_first (by decide) (by decide) hx hf ht
  refine ⟨hx, hd.trans ?_⟩
  show some (⟨4, x / 128 % 32, x / 32768 % 32, 0, sgn (x / 1048576) 12⟩ : Ins) = some ⟨4, d, a, 0, sgn v 12⟩
  rw [q1, q2, q3]
end Go.Pat

/- What is encoded is decoded again: lui, addi, slli, addiw, ld (plain). (Printed by wip/tools/gen_back.py.) -/
namespace Go.Pat
open Go Go.RowKit Go.Proofs
theorem dg_U1 (d v x : Nat) (hd : d < 32) (_hv : v < 1048576) (hx : x = 55 + d * 128 + v * 4096) : x % 128 = 55 ∧ x / 128 % 32 = d ∧ x / 4096 = v :=
  ⟨mods x 55 128 (d + v * 32) (by omega) (by decide), divmod x (55) 128 (v) 32 d (by omega) (by omega) hd, divs x (55 + d * 128) 4096 v (by omega) (by omega)⟩
theorem wd_U1 (d v : Nat) (hd : d < 32) (hv : v < 1048576) : rwordN 85 55 0 0 d 0 0 (sgn v 20) = 55 + d * 128 + v * 4096 := by
  show headN 55 0 d 0 0 ||| bitI (sgn v 20) 0 20 * 4096 = _
  rw [bitI_sgn20 v hv, head0 55 0 d 0 0 (by decide) (by decide) hd (by decide) (by decide), show v * 4096 = v * 2 ^ 12 from rfl, or_add _ v 12 (by omega)]
  omega
theorem back_1 (rd a b n : Int) (h : rightI 1 rd a b n = true) : Back 1 rd a b n := by
  have hr := h
  unfold rightI at h
  simp only [Bool.and_eq_true] at h
  obtain ⟨d, rfl, hd⟩ := regB_t (show regB rd true = true from h.1.1.1.2)
  obtain rfl := regB_f (show regB a false = true from h.1.1.2)
  obtain rfl := regB_f (show regB b false = true from h.1.2)
  have hn : -524288 ≤ n ∧ n ≤ 524287 := by have h1 : immB1 85 n = true := h.2; simpa [immB1] using h1
  obtain ⟨v, hv, rfl⟩ := sgn_of20 n hn
  have hz : encZ 1 d 0 0 (sgn v 20) = 55 + d * 128 + v * 4096 := by unfold encZ; rw [if_pos hr]; exact wd_U1 d v hd hv
  unfold Back
  rw [hz]
  obtain ⟨x, hxe⟩ : ∃ x, 55 + d * 128 + v * 4096 = x := ⟨_, rfl⟩
  rw [hxe]
  have hx : x < 4294967296 := by omega
  obtain ⟨m1, q1, q2⟩ := dg_U1 d v x hd hv hxe.symm
  have hf : ∀ j, 1 ≤ j → j < 1 → fitsR j x = false := fun j j1 j2 => by omega
  have ht : fitsR 1 x = true := by
    show fitsB 85 55 0 0 x = true
    simp [fitsB, fitsE, m1]
  have hd := dec_first (by decide) (by decide) hx hf ht
  refine ⟨hx, hd.trans ?_⟩
  show some (⟨1, x / 128 % 32, 0, 0, sgn (x / 4096) 20⟩ : Ins) = some ⟨1, d, 0, 0, sgn v 20⟩
  rw [q1, q2]
theorem dg_I1 (c f d a v x : Nat) (hc : c < 128) (hf : f < 8) (hd : d < 32) (ha : a < 32) (_hv : v < 4096) (hx : x = c + d * 128 + f * 4096 + a * 32768 + v * 1048576) : x % 128 = c ∧ x / 4096 % 8 = f ∧ x / 128 % 32 = d ∧ x / 32768 % 32 = a ∧ x / 1048576 = v :=
  ⟨mods x c 128 (d + f * 32 + a * 256 + v * 8192) (by omega) hc, divmod x (c + d * 128) 4096 (a + v * 32) 8 f (by omega) (by omega) hf, divmod x c 128 (f + a * 8 + v * 256) 32 d (by omega) hc hd, divmod x (c + d * 128 + f * 4096) 32768 (v) 32 a (by omega) (by omega) ha, divs x (c + d * 128 + f * 4096 + a * 32768) 1048576 v (by omega) (by omega)⟩
theorem wd_I1 (c f d a v : Nat) (hc : c < 128) (hf : f < 8) (hd : d < 32) (ha : a < 32) (hv : v < 4096) : rwordN 73 c f 0 d a 0 (sgn v 12) = c + d * 128 + f * 4096 + a * 32768 + v * 1048576 := by
  show headN c f d a 0 ||| bitI (sgn v 12) 0 12 * 1048576 = _
  rw [(bitI_sgn12 v hv).1, head0 c f d a 0 hc hf hd ha (by decide), show v * 1048576 = v * 2 ^ 20 from rfl, or_add _ v 20 (by omega)]
  omega
theorem wd_H1 (c f d a v : Nat) (hc : c < 128) (hf : f < 8) (hd : d < 32) (ha : a < 32) (hv : v < 64) : rwordN 72 c f 0 d a 0 (v : Int) = c + d * 128 + f * 4096 + a * 32768 + v * 1048576 := by
  show headN c f d a 0 ||| 0 * 33554432 ||| ((v : Int) % 4294967296).toNat * 1048576 % 4294967296 = _
  rw [show ((v : Int) % 4294967296).toNat = v by omega, Nat.mod_eq_of_lt (show v * 1048576 < 4294967296 by omega), Nat.zero_mul, Nat.or_zero, head0 c f d a 0 hc hf hd ha (by decide), show v * 1048576 = v * 2 ^ 20 from rfl, or_add _ v 20 (by omega)]
  omega
theorem back_14 (rd a b n : Int) (h : rightI 14 rd a b n = true) : Back 14 rd a b n := by
  have hr := h
  unfold rightI at h
  simp only [Bool.and_eq_true] at h
  obtain ⟨d, rfl, hd⟩ := regB_t (show regB rd true = true from h.1.1.1.2)
  obtain ⟨a, rfl, ha⟩ := regB_t (show regB a true = true from h.1.1.2)
  obtain rfl := regB_f (show regB b false = true from h.1.2)
  have hn : -2048 ≤ n ∧ n ≤ 2047 := by have h1 : immB1 73 n = true := h.2; simpa [immB1] using h1
  obtain ⟨v, hv, rfl⟩ := sgn_of12 n hn
  have hz : encZ 14 d a 0 (sgn v 12) = 3 + d * 128 + 3 * 4096 + a * 32768 + v * 1048576 := by unfold encZ; rw [if_pos hr]; exact wd_I1 3 3 d a v (by decide) (by decide) hd ha hv
  unfold Back
  rw [hz]
  obtain ⟨x, hxe⟩ : ∃ x, 3 + d * 128 + 3 * 4096 + a * 32768 + v * 1048576 = x := ⟨_, rfl⟩
  rw [hxe]
  have hx : x < 4294967296 := by omega
  obtain ⟨m1, m2, q1, q2, q3⟩ := dg_I1 3 3 d a v x (by decide) (by decide) hd ha hv hxe.symm
  have hf : ∀ j, 1 ≤ j → j < 14 → fitsR j x = false := fun j j1 j2 => by
    rcases (show j = 1 ∨ j = 2 ∨ j = 3 ∨ j = 4 ∨ j = 5 ∨ j = 6 ∨ j = 7 ∨ j = 8 ∨ j = 9 ∨ j = 10 ∨ j = 11 ∨ j = 12 ∨ j = 13 by omega) with rfl | rfl | rfl | rfl | rfl | rfl | rfl | rfl | rfl | rfl | rfl | rfl | rfl
    · show fitsB 85 55 0 0 x = false
      simp [fitsB, fitsE, m1, m2]
    · show fitsB 85 23 0 0 x = false
      simp [fitsB, fitsE, m1, m2]
    · show fitsB 74 111 0 0 x = false
      simp [fitsB, fitsE, m1, m2]
    · show fitsB 73 103 0 0 x = false
      simp [fitsB, fitsE, m1, m2]
    · show fitsB 66 99 0 0 x = false
      simp [fitsB, fitsE, m1, m2]
    · show fitsB 66 99 1 0 x = false
      simp [fitsB, fitsE, m1, m2]
    · show fitsB 66 99 4 0 x = false
      simp [fitsB, fitsE, m1, m2]
    · show fitsB 66 99 5 0 x = false
      simp [fitsB, fitsE, m1, m2]
    · show fitsB 66 99 6 0 x = false
      simp [fitsB, fitsE, m1, m2]
    · show fitsB 66 99 7 0 x = false
      simp [fitsB, fitsE, m1, m2]
    · show fitsB 73 3 0 0 x = false
      simp [fitsB, fitsE, m1, m2]
    · show fitsB 73 3 1 0 x = false
      simp [fitsB, fitsE, m1, m2]
    · show fitsB 73 3 2 0 x = false
      simp [fitsB, fitsE, m1, m2]
  have ht : fitsR 14 x = true := by
    show fitsB 73 3 3 0 x = true
    simp [fitsB, fitsE, m1, m2]
  have hd := dec_first (by decide) (by decide) hx hf ht
  refine ⟨hx, hd.trans ?_⟩
  show some (⟨14, x / 128 % 32, x / 32768 % 32, 0, sgn (x / 1048576) 12⟩ : Ins) = some ⟨14, d, a, 0, sgn v 12⟩
  rw [q1, q2, q3]
theorem back_22 (rd a b n : Int) (h : rightI 22 rd a b n = true) : Back 22 rd a b n := by
  have hr := h
  unfold rightI at h
  simp only [Bool.and_eq_true] at h
  obtain ⟨d, rfl, hd⟩ := regB_t (show regB rd true = true from h.1.1.1.2)
  obtain ⟨a, rfl, ha⟩ := regB_t (show regB a true = true from h.1.1.2)
  obtain rfl := regB_f (show regB b false = true from h.1.2)
  have hn : -2048 ≤ n ∧ n ≤ 2047 := by have h1 : immB1 73 n = true := h.2; simpa [immB1] using h1
  obtain ⟨v, hv, rfl⟩ := sgn_of12 n hn
  have hz : encZ 22 d a 0 (sgn v 12) = 19 + d * 128 + 0 * 4096 + a * 32768 + v * 1048576 := by unfold encZ; rw [if_pos hr]; exact wd_I1 19 0 d a v (by decide) (by decide) hd ha hv
  unfold Back
  rw [hz]
  obtain ⟨x, hxe⟩ : ∃ x, 19 + d * 128 + 0 * 4096 + a * 32768 + v * 1048576 = x := ⟨_, rfl⟩
  rw [hxe]
  have hx : x < 4294967296 := by omega
  obtain ⟨m1, m2, q1, q2, q3⟩ := dg_I1 19 0 d a v x (by decide) (by decide) hd ha hv hxe.symm
  have hf : ∀ j, 1 ≤ j → j < 22 → fitsR j x = false := fun j j1 j2 => by
    rcases (show j = 1 ∨ j = 2 ∨ j = 3 ∨ j = 4 ∨ j = 5 ∨ j = 6 ∨ j = 7 ∨ j = 8 ∨ j = 9 ∨ j = 10 ∨ j = 11 ∨ j = 12 ∨ j = 13 ∨ j = 14 ∨ j = 15 ∨ j = 16 ∨ j = 17 ∨ j = 18 ∨ j = 19 ∨ j = 20 ∨ j = 21 by omega) with rfl | rfl | rfl | rfl | rfl | rfl | rfl | rfl | rfl | rfl | rfl | rfl | rfl | rfl | rfl | rfl | rfl | rfl | rfl | rfl | rfl
    · show fitsB 85 55 0 0 x = false
      simp [fitsB, fitsE, m1, m2]
    · show fitsB 85 23 0 0 x = false
      simp [fitsB, fitsE, m1, m2]
    · show fitsB 74 111 0 0 x = false
      simp [fitsB, fitsE, m1, m2]
    · show fitsB 73 103 0 0 x = false
      simp [fitsB, fitsE, m1, m2]
    · show fitsB 66 99 0 0 x = false
      simp [fitsB, fitsE, m1, m2]
    · show fitsB 66 99 1 0 x = false
      simp [fitsB, fitsE, m1, m2]
    · show fitsB 66 99 4 0 x = false
      simp [fitsB, fitsE, m1, m2]
    · show fitsB 66 99 5 0 x = false
      simp [fitsB, fitsE, m1, m2]
    · show fitsB 66 99 6 0 x = false
      simp [fitsB, fitsE, m1, m2]
    · show fitsB 66 99 7 0 x = false
      simp [fitsB, fitsE, m1, m2]
    · show fitsB 73 3 0 0 x = false
      simp [fitsB, fitsE, m1, m2]
    · show fitsB 73 3 1 0 x = false
      simp [fitsB, fitsE, m1, m2]
    · show fitsB 73 3 2 0 x = false
      simp [fitsB, fitsE, m1, m2]
    · show fitsB 73 3 3 0 x = false
      simp [fitsB, fitsE, m1, m2]
    · show fitsB 73 3 4 0 x = false
      simp [fitsB, fitsE, m1, m2]
    · show fitsB 73 3 5 0 x = false
      simp [fitsB, fitsE, m1, m2]
    · show fitsB 73 3 6 0 x = false
      simp [fitsB, fitsE, m1, m2]
    · show fitsB 83 35 0 0 x = false
      simp [fitsB, fitsE, m1, m2]
    · show fitsB 83 35 1 0 x = false
      simp [fitsB, fitsE, m1, m2]
    · show fitsB 83 35 2 0 x = false
      simp [fitsB, fitsE, m1, m2]
    · show fitsB 83 35 3 0 x = false
      simp [fitsB, fitsE, m1, m2]
  have ht : fitsR 22 x = true := by
    show fitsB 73 19 0 0 x = true
    simp [fitsB, fitsE, m1, m2]
  have hd := dec_first (by decide) (by decide) hx hf ht
  refine ⟨hx, hd.trans ?_⟩
  show some (⟨22, x / 128 % 32, x / 32768 % 32, 0, sgn (x / 1048576) 12⟩ : Ins) = some ⟨22, d, a, 0, sgn v 12⟩
  rw [q1, q2, q3]
theorem back_31 (rd a b n : Int) (h : rightI 31 rd a b n = true) : Back 31 rd a b n := by
  have hr := h
  unfold rightI at h
  simp only [Bool.and_eq_true] at h
  obtain ⟨d, rfl, hd⟩ := regB_t (show regB rd true = true from h.1.1.1.2)
  obtain ⟨a, rfl, ha⟩ := regB_t (show regB a true = true from h.1.1.2)
  obtain rfl := regB_f (show regB b false = true from h.1.2)
  have hn : -2048 ≤ n ∧ n ≤ 2047 := by have h1 : immB1 73 n = true := h.2; simpa [immB1] using h1
  obtain ⟨v, hv, rfl⟩ := sgn_of12 n hn
  have hz : encZ 31 d a 0 (sgn v 12) = 27 + d * 128 + 0 * 4096 + a * 32768 + v * 1048576 := by unfold encZ; rw [if_pos hr]; exact wd_I1 27 0 d a v (by decide) (by decide) hd ha hv
  unfold Back
  rw [hz]
  obtain ⟨x, hxe⟩ : ∃ x, 27 + d * 128 + 0 * 4096 + a * 32768 + v * 1048576 = x := ⟨_, rfl⟩
  rw [hxe]
  have hx : x < 4294967296 := by omega
  obtain ⟨m1, m2, q1, q2, q3⟩ := dg_I1 27 0 d a v x (by decide) (by decide) hd ha hv hxe.symm
  have hf : ∀ j, 1 ≤ j → j < 31 → fitsR j x = false := fun j j1 j2 => by
    rcases (show j = 1 ∨ j = 2 ∨ j = 3 ∨ j = 4 ∨ j = 5 ∨ j = 6 ∨ j = 7 ∨ j = 8 ∨ j = 9 ∨ j = 10 ∨ j = 11 ∨ j = 12 ∨ j = 13 ∨ j = 14 ∨ j = 15 ∨ j = 16 ∨ j = 17 ∨ j = 18 ∨ j = 19 ∨ j = 20 ∨ j = 21 ∨ j = 22 ∨ j = 23 ∨ j = 24 ∨ j = 25 ∨ j = 26 ∨ j = 27 ∨ j = 28 ∨ j = 29 ∨ j = 30 by omega) with rfl | rfl | rfl | rfl | rfl | rfl | rfl | rfl | rfl | rfl | rfl | rfl | rfl | rfl | rfl | rfl | rfl | rfl | rfl | rfl | rfl | rfl | rfl | rfl | rfl | rfl | rfl | rfl | rfl | rfl
    · show fitsB 85 55 0 0 x = false
      simp [fitsB, fitsE, m1, m2]
    · show fitsB 85 23 0 0 x = false
      simp [fitsB, fitsE, m1, m2]
    · show fitsB 74 111 0 0 x = false
      simp [fitsB, fitsE, m1, m2]
    · show fitsB 73 103 0 0 x = false
      simp [fitsB, fitsE, m1, m2]
    · show fitsB 66 99 0 0 x = false
      simp [fitsB, fitsE, m1, m2]
    · show fitsB 66 99 1 0 x = false
      simp [fitsB, fitsE, m1, m2]
    · show fitsB 66 99 4 0 x = false
      simp [fitsB, fitsE, m1, m2]
    · show fitsB 66 99 5 0 x = false
      simp [fitsB, fitsE, m1, m2]
    · show fitsB 66 99 6 0 x = false
      simp [fitsB, fitsE, m1, m2]
    · show fitsB 66 99 7 0 x = false
      simp [fitsB, fitsE, m1, m2]
    · show fitsB 73 3 0 0 x = false
      simp [fitsB, fitsE, m1, m2]
    · show fitsB 73 3 1 0 x = false
      simp [fitsB, fitsE, m1, m2]
    · show fitsB 73 3 2 0 x = false
      simp [fitsB, fitsE, m1, m2]
    · show fitsB 73 3 3 0 x = false
      simp [fitsB, fitsE, m1, m2]
    · show fitsB 73 3 4 0 x = false
      simp [fitsB, fitsE, m1, m2]
    · show fitsB 73 3 5 0 x = false
      simp [fitsB, fitsE, m1, m2]
    · show fitsB 73 3 6 0 x = false
      simp [fitsB, fitsE, m1, m2]
    · show fitsB 83 35 0 0 x = false
      simp [fitsB, fitsE, m1, m2]
    · show fitsB 83 35 1 0 x = false
      simp [fitsB, fitsE, m1, m2]
    · show fitsB 83 35 2 0 x = false
      simp [fitsB, fitsE, m1, m2]
    · show fitsB 83 35 3 0 x = false
      simp [fitsB, fitsE, m1, m2]
    · show fitsB 73 19 0 0 x = false
      simp [fitsB, fitsE, m1, m2]
    · show fitsB 73 19 2 0 x = false
      simp [fitsB, fitsE, m1, m2]
    · show fitsB 73 19 3 0 x = false
      simp [fitsB, fitsE, m1, m2]
    · show fitsB 73 19 4 0 x = false
      simp [fitsB, fitsE, m1, m2]
    · show fitsB 73 19 6 0 x = false
      simp [fitsB, fitsE, m1, m2]
    · show fitsB 73 19 7 0 x = false
      simp [fitsB, fitsE, m1, m2]
    · show fitsB 72 19 1 0 x = false
      simp [fitsB, fitsE, m1, m2]
    · show fitsB 72 19 5 0 x = false
      simp [fitsB, fitsE, m1, m2]
    · show fitsB 72 19 5 32 x = false
      simp [fitsB, fitsE, m1, m2]
  have ht : fitsR 31 x = true := by
    show fitsB 73 27 0 0 x = true
    simp [fitsB, fitsE, m1, m2]
  have hd := dec_first (by decide) (by decide) hx hf ht
  refine ⟨hx, hd.trans ?_⟩
  show some (⟨31, x / 128 % 32, x / 32768 % 32, 0, sgn (x / 1048576) 12⟩ : Ins) = some ⟨31, d, a, 0, sgn v 12⟩
  rw [q1, q2, q3]
theorem back_28 (rd a b n : Int) (h : rightI 28 rd a b n = true) : Back 28 rd a b n := by
  have hr := h
  unfold rightI at h
  simp only [Bool.and_eq_true] at h
  obtain ⟨d, rfl, hd⟩ := regB_t (show regB rd true = true from h.1.1.1.2)
  obtain ⟨a, rfl, ha⟩ := regB_t (show regB a true = true from h.1.1.2)
  obtain rfl := regB_f (show regB b false = true from h.1.2)
  have hn : 0 ≤ n ∧ n ≤ 63 := by have h1 : immB1 72 n = true := h.2; simpa [immB1] using h1
  obtain ⟨v, rfl, hv⟩ : ∃ v : Nat, n = v ∧ v < 64 := ⟨n.toNat, by omega, by omega⟩
  have hz : encZ 28 d a 0 (v : Int) = 19 + d * 128 + 1 * 4096 + a * 32768 + v * 1048576 := by unfold encZ; rw [if_pos hr]; exact wd_H1 19 1 d a v (by decide) (by decide) hd ha hv
  unfold Back
  rw [hz]
  obtain ⟨x, hxe⟩ : ∃ x, 19 + d * 128 + 1 * 4096 + a * 32768 + v * 1048576 = x := ⟨_, rfl⟩
  rw [hxe]
  have hx : x < 4294967296 := by omega
  obtain ⟨m1, m2, q1, q2, q3⟩ := dg_I1 19 1 d a v x (by decide) (by decide) hd ha (by omega) hxe.symm
  have m3 : x / 67108864 = 0 := Nat.div_eq_of_lt (by omega)
  have hf : ∀ j, 1 ≤ j → j < 28 → fitsR j x = false := fun j j1 j2 => by
    rcases (show j = 1 ∨ j = 2 ∨ j = 3 ∨ j = 4 ∨ j = 5 ∨ j = 6 ∨ j = 7 ∨ j = 8 ∨ j = 9 ∨ j = 10 ∨ j = 11 ∨ j = 12 ∨ j = 13 ∨ j = 14 ∨ j = 15 ∨ j = 16 ∨ j = 17 ∨ j = 18 ∨ j = 19 ∨ j = 20 ∨ j = 21 ∨ j = 22 ∨ j = 23 ∨ j = 24 ∨ j = 25 ∨ j = 26 ∨ j = 27 by omega) with rfl | rfl | rfl | rfl | rfl | rfl | rfl | rfl | rfl | rfl | rfl | rfl | rfl | rfl | rfl | rfl | rfl | rfl | rfl | rfl | rfl | rfl | rfl | rfl | rfl | rfl | rfl
    · show fitsB 85 55 0 0 x = false
      simp [fitsB, fitsE, m1, m2]
    · show fitsB 85 23 0 0 x = false
      simp [fitsB, fitsE, m1, m2]
    · show fitsB 74 111 0 0 x = false
      simp [fitsB, fitsE, m1, m2]
    · show fitsB 73 103 0 0 x = false
      simp [fitsB, fitsE, m1, m2]
    · show fitsB 66 99 0 0 x = false
      simp [fitsB, fitsE, m1, m2]
    · show fitsB 66 99 1 0 x = false
      simp [fitsB, fitsE, m1, m2]
    · show fitsB 66 99 4 0 x = false
      simp [fitsB, fitsE, m1, m2]
    · show fitsB 66 99 5 0 x = false
      simp [fitsB, fitsE, m1, m2]
    · show fitsB 66 99 6 0 x = false
      simp [fitsB, fitsE, m1, m2]
    · show fitsB 66 99 7 0 x = false
      simp [fitsB, fitsE, m1, m2]
    · show fitsB 73 3 0 0 x = false
      simp [fitsB, fitsE, m1, m2]
    · show fitsB 73 3 1 0 x = false
      simp [fitsB, fitsE, m1, m2]
    · show fitsB 73 3 2 0 x = false
      simp [fitsB, fitsE, m1, m2]
    · show fitsB 73 3 3 0 x = false
      simp [fitsB, fitsE, m1, m2]
    · show fitsB 73 3 4 0 x = false
      simp [fitsB, fitsE, m1, m2]
    · show fitsB 73 3 5 0 x = false
      simp [fitsB, fitsE, m1, m2]
    · show fitsB 73 3 6 0 x = false
      simp [fitsB, fitsE, m1, m2]
    · show fitsB 83 35 0 0 x = false
      simp [fitsB, fitsE, m1, m2]
    · show fitsB 83 35 1 0 x = false
      simp [fitsB, fitsE, m1, m2]
    · show fitsB 83 35 2 0 x = false
      simp [fitsB, fitsE, m1, m2]
    · show fitsB 83 35 3 0 x = false
      simp [fitsB, fitsE, m1, m2]
    · show fitsB 73 19 0 0 x = false
      simp [fitsB, fitsE, m1, m2]
    · show fitsB 73 19 2 0 x = false
      simp [fitsB, fitsE, m1, m2]
    · show fitsB 73 19 3 0 x = false
      simp [fitsB, fitsE, m1, m2]
    · show fitsB 73 19 4 0 x = false
      simp [fitsB, fitsE, m1, m2]
    · show fitsB 73 19 6 0 x = false
      simp [fitsB, fitsE, m1, m2]
    · show fitsB 73 19 7 0 x = false
      simp [fitsB, fitsE, m1, m2]
  have ht : fitsR 28 x = true := by
    show fitsB 72 19 1 0 x = true
    simp [fitsB, fitsE, m1, m2, m3]
  have hd := dec_first (by decide) (by decide) hx hf ht
  refine ⟨hx, hd.trans ?_⟩
  show some (⟨28, x / 128 % 32, x / 32768 % 32, 0, ((x / 1048576 % 64 : Nat) : Int)⟩ : Ins) = some ⟨28, d, a, 0, (v : Int)⟩
  rw [q1, q2, q3, Nat.mod_eq_of_lt hv]
end Go.Pat
