/- The plain laws of an image's file: what is written is read, and nothing else. -/
import Derived.Test.YtkgnodlhdilmoaaRead
namespace Go.Pat
open Go Go.RowKit

/- the other order of reading a table. -/
def cnts (l : List UInt8) (n : Nat) : List Nat := (List.range n).map (cntK l)
def dataK (l : List UInt8) (n k : Nat) : List UInt8 := (l.drop (plAt (cnts l n) k)).take (cntK l k)
def sayG (l : List UInt8) (n k : Nat) : Sgd := sayS l k (dataK l n k)
theorem cnts_length (l : List UInt8) (n : Nat) : (cnts l n).length = n := by simp [cnts]
theorem cnts_get (l : List UInt8) (n k : Nat) (h : k < n) : (cnts l n)[k]? = some (cntK l k) := by simp [cnts, h]
theorem saysT_is (l : List UInt8) (n : Nat) (h : 64 + 56 * n ≤ l.length) (k : Nat) (hk : k ≤ n) :
    saysT l n k = if endT (cnts l n) k ≤ l.length then .some ((List.range k).map (sayG l n)) (endT (cnts l n) k) else .none := by
  induction k with
  | zero => rw [if_pos (by rw [endT, cnts_length]; exact h), saysT, endT, cnts_length]; rfl
  | succ k ih =>
    have hc := cnts_get l n k (by omega)
    have hm := endT_mono (cnts l n) (show k ≤ k + 1 by omega)
    have he : endT (cnts l n) (k + 1) = if cntK l k = 0 then endT (cnts l n) k else roundN (endT (cnts l n) k) + cntK l k := by rw [endT, hc]
    have hp : plAt (cnts l n) k = if cntK l k = 0 then 0 else roundN (endT (cnts l n) k) := by unfold plAt; rw [hc]
    have ih := ih (by omega)
    by_cases h1 : endT (cnts l n) k ≤ l.length
    · rw [if_pos h1] at ih
      by_cases h0 : cntK l k = 0
      · rw [if_pos h0] at he hp
        rw [saysT_zero ih h0, he, if_pos h1, List.range_succ, List.map_append]
        congr 1
        congr 1
        simp only [List.map_cons, List.map_nil, sayG, dataK, h0, List.take_zero]
      · rw [if_neg h0] at he hp
        by_cases hb : l.length < roundN (endT (cnts l n) k) ∨ l.length - roundN (endT (cnts l n) k) < cntK l k
        · rw [saysT_no ih h0 hb, if_neg (by rw [he]; omega)]
        · rw [saysT_yes ih h0 hb, he, if_pos (by omega), List.range_succ, List.map_append]
          congr 1
          congr 1
          simp only [List.map_cons, List.map_nil, sayG, dataK, hp]
    · rw [if_neg h1] at ih
      rw [saysT_none ih (show k ≤ k + 1 by omega), if_neg (by omega)]

/- numbers at their places. -/
theorem le_get (n v i : Nat) (h : i < n) : (le n v)[i]? = some (UInt8.ofNat (v / 256 ^ i)) := by simp [le, h]
def NumAt (l : List UInt8) (a n v : Nat) : Prop := ∀ i, i < n → l[a + i]? = some (UInt8.ofNat (v / 256 ^ i))
theorem num_at {l : List UInt8} {a n v : Nat} (h : NumAt l a n v) : num l a n = v % 256 ^ n := by
  induction n with
  | zero => simp [num, Nat.mod_one]
  | succ n ih =>
    have h1 := ih (fun i hi => h i (by omega))
    rw [num, h1, List.getD_eq_getElem?_getD, h n (by omega), Nat.mod_pow_succ, Nat.mul_comm (256 ^ n)]
    rfl
theorem num_congr {l m : List UInt8} {a n : Nat} (h : ∀ i, i < n → l[a + i]? = m[a + i]?) : num l a n = num m a n := by
  induction n with
  | zero => rfl
  | succ n ih => rw [num, num, ih (fun i hi => h i (by omega)), List.getD_eq_getElem?_getD, List.getD_eq_getElem?_getD, h n (by omega)]
theorem head_at56 (en n : Nat) : NumAt (headB en n) 56 2 n := fun i hi => by
  match i, hi with
  | 0, _ => rfl
  | 1, _ => rfl
theorem head_at24 (en n : Nat) : NumAt (headB en n) 24 8 en := fun i hi => by
  match i, hi with
  | 0, _ => rfl
  | 1, _ => rfl
  | 2, _ => rfl
  | 3, _ => rfl
  | 4, _ => rfl
  | 5, _ => rfl
  | 6, _ => rfl
  | 7, _ => rfl
theorem row_at4 (addr perm len size at_ : Nat) : NumAt (rowB addr perm len size at_) 4 4 perm := fun i hi => by
  match i, hi with
  | 0, _ => rfl
  | 1, _ => rfl
  | 2, _ => rfl
  | 3, _ => rfl
theorem row_at16 (addr perm len size at_ : Nat) : NumAt (rowB addr perm len size at_) 16 8 addr := fun i hi => by
  match i, hi with
  | 0, _ => rfl
  | 1, _ => rfl
  | 2, _ => rfl
  | 3, _ => rfl
  | 4, _ => rfl
  | 5, _ => rfl
  | 6, _ => rfl
  | 7, _ => rfl
theorem row_at32 (addr perm len size at_ : Nat) : NumAt (rowB addr perm len size at_) 32 8 len := fun i hi => by
  match i, hi with
  | 0, _ => rfl
  | 1, _ => rfl
  | 2, _ => rfl
  | 3, _ => rfl
  | 4, _ => rfl
  | 5, _ => rfl
  | 6, _ => rfl
  | 7, _ => rfl
theorem row_at40 (addr perm len size at_ : Nat) : NumAt (rowB addr perm len size at_) 40 8 size := fun i hi => by
  match i, hi with
  | 0, _ => rfl
  | 1, _ => rfl
  | 2, _ => rfl
  | 3, _ => rfl
  | 4, _ => rfl
  | 5, _ => rfl
  | 6, _ => rfl
  | 7, _ => rfl

/- the file's bytes. -/
def segRow (ss : List Sgd) (k : Nat) (s : Sgd) : List UInt8 := rowB s.addr s.perm.toNat s.data.length s.size (plAt (Go.Pat.dlens ss) k)
theorem dlens_get (ss : List Sgd) (k : Nat) (h : k < ss.length) : (Go.Pat.dlens ss)[k]? = some ss[k].data.length := by simp [Go.Pat.dlens, h]
theorem fileT_step (en : Nat) (ss : List Sgd) (k : Nat) (hk : k < ss.length) (i : Nat) :
    (fileT en ss (k + 1))[i]? = if plAt (Go.Pat.dlens ss) k ≤ i ∧ i < plAt (Go.Pat.dlens ss) k + ss[k].data.length then ss[k].data[i - plAt (Go.Pat.dlens ss) k]? else
      if 64 + 56 * k ≤ i ∧ i < 64 + 56 * k + 56 then (segRow ss k ss[k])[i - (64 + 56 * k)]? else (fileT en ss k)[i]? := by
  have hh := endT_head (Go.Pat.dlens ss) ss.length
  rw [dlens_length] at hh
  have h2 := plAt_fits (Go.Pat.dlens ss) k (dlens_get ss k hk) hk
  have hfl := fileT_length en ss k
  rw [fileT, List.getElem?_eq_getElem hk]
  simp only
  rw [splice_get _ _ _ (by rw [length_splice _ _ _ (by rw [rowB_length, hfl]; omega), hfl]; exact h2), splice_get _ _ _ (by rw [rowB_length, hfl]; omega), rowB_length]
  rfl
theorem plAt_after (ss : List Sgd) (k : Nat) (hk : k < ss.length) (h : ss[k].data.length ≠ 0) : endT (Go.Pat.dlens ss) k ≤ plAt (Go.Pat.dlens ss) k := by
  unfold plAt
  rw [dlens_get ss k hk]
  simp only [if_neg h, roundN]
  omega
theorem fileT_head (en : Nat) (ss : List Sgd) (j : Nat) (hj : j ≤ ss.length) (i : Nat) (hi : i < 64) : (fileT en ss j)[i]? = (headB en ss.length)[i]? := by
  have hh := endT_head (Go.Pat.dlens ss) ss.length
  rw [dlens_length] at hh
  induction j with
  | zero => rw [fileT, splice_get _ _ _ (by rw [headB_length, List.length_replicate]; omega), headB_length, if_pos (by omega), Nat.sub_zero]
  | succ j ih =>
    rw [fileT_step en ss j (by omega), if_neg, if_neg (by omega), ih (by omega)]
    rintro ⟨h1, h2⟩
    have := plAt_head (Go.Pat.dlens ss) j (dlens_get ss j (by omega)) (by omega)
    omega
theorem fileT_row (en : Nat) (ss : List Sgd) (k : Nat) (hk : k < ss.length) (j : Nat) (hj : j ≤ ss.length) (hkj : k < j) (r : Nat) (hr : r < 56) : (fileT en ss j)[64 + 56 * k + r]? = (segRow ss k ss[k])[r]? := by
  induction j with
  | zero => omega
  | succ j ih =>
    have hp : ¬ (plAt (Go.Pat.dlens ss) j ≤ 64 + 56 * k + r ∧ 64 + 56 * k + r < plAt (Go.Pat.dlens ss) j + ss[j].data.length) := by
      rintro ⟨h1, h2⟩
      have := plAt_head (Go.Pat.dlens ss) j (dlens_get ss j (by omega)) (by omega)
      rw [dlens_length] at this
      omega
    rw [fileT_step en ss j (by omega), if_neg hp]
    by_cases e : k = j
    · subst e; rw [if_pos (by omega), Nat.add_sub_cancel_left]
    · rw [if_neg (by omega), ih (by omega) (by omega)]
theorem fileT_data (en : Nat) (ss : List Sgd) (k : Nat) (hk : k < ss.length) (j : Nat) (hj : j ≤ ss.length) (hkj : k < j) (r : Nat) (hr : r < ss[k].data.length) :
    (fileT en ss j)[plAt (Go.Pat.dlens ss) k + r]? = ss[k].data[r]? := by
  induction j with
  | zero => omega
  | succ j ih =>
    rw [fileT_step en ss j (by omega)]
    by_cases e : k = j
    · subst e; rw [if_pos (by omega), Nat.add_sub_cancel_left]
    · have hf := plAt_fits (Go.Pat.dlens ss) k (dlens_get ss k hk) (show k < j by omega)
      have hh := plAt_head (Go.Pat.dlens ss) k (dlens_get ss k hk) (by omega)
      rw [dlens_length] at hh
      have ha := plAt_after ss j (by omega)
      have hd : 64 + 56 * j + 56 ≤ 64 + 56 * ss.length := by omega
      rw [if_neg (by rintro ⟨h1, h2⟩; have := ha (by omega); omega), if_neg (by omega), ih (by omega) (by omega)]

theorem diffTo_self (l : List UInt8) (k : Nat) : diffTo l l k = none := by
  induction k with
  | zero => rfl
  | succ k ih => rw [diffTo, ih]; simp
theorem diffTo_none {b w : List UInt8} {k : Nat} (h : diffTo b w k = none) (i : Nat) (hi : i < k) : b[i]? = w[i]? := by
  induction k with
  | zero => omega
  | succ k ih =>
    rw [diffTo] at h
    cases hd : diffTo b w k with
    | some j => rw [hd] at h; cases h
    | none =>
      rw [hd] at h
      simp only at h
      by_cases e : b[k]? = w[k]?
      · by_cases e2 : i = k
        · rw [e2]; exact e
        · exact ih hd (by omega)
      · rw [if_neg e] at h; cases h

theorem fileB_length (en : Nat) (ss : List Sgd) : (fileB en ss).length = endT (Go.Pat.dlens ss) ss.length := fileT_length en ss ss.length
theorem num_mod {v : Nat} (n : Nat) {x : Nat} (h : x = v % 256 ^ n) (hv : v < 256 ^ n) : x = v := by rw [h, Nat.mod_eq_of_lt hv]

theorem read_file {en : Nat} {ss : List Sgd} (hen : en < 18446744073709551616) (hc : checkE en ss = 0) : readE (fileB en ss) = .good en ss := by
  have hK := check_ok hc
  have h1 := hK.some_
  have h8 := hK.few
  have hl := fileB_length en ss
  have hh := endT_head (Go.Pat.dlens ss) ss.length
  rw [dlens_length] at hh
  have h56 : num (fileB en ss) 56 2 = ss.length := num_mod 2 (num_at fun i hi => by
    unfold fileB; rw [fileT_head en ss _ (Nat.le_refl _) _ (by omega)]; exact head_at56 en ss.length i hi) (by omega)
  have h24 : num (fileB en ss) 24 8 = en := num_mod 8 (num_at fun i hi => by
    unfold fileB; rw [fileT_head en ss _ (Nat.le_refl _) _ (by omega)]; exact head_at24 en ss.length i hi) (Nat.lt_of_lt_of_le hen (by decide))
  have hrow : ∀ k (hk : k < ss.length) a n v, a + n ≤ 56 → NumAt (segRow ss k ss[k]) a n v → v < 256 ^ n → num (fileB en ss) (64 + 56 * k + a) n = v := fun k hk a n v ha hv hlt =>
    num_mod n (num_at fun i hi => by
      unfold fileB
      rw [Nat.add_assoc (64 + 56 * k) a i, fileT_row en ss k hk _ (Nat.le_refl _) hk (a + i) (by omega)]; exact hv i hi) hlt
  have hcnt : ∀ k (hk : k < ss.length), cntK (fileB en ss) k = ss[k].data.length := fun k hk =>
    hrow k hk 32 8 _ (by decide) (row_at32 _ _ _ _ _) (by have := (hK.seg ss[k] (List.getElem_mem hk)).1; exact Nat.lt_of_le_of_lt this (by decide))
  have hcn : cnts (fileB en ss) ss.length = Go.Pat.dlens ss := by
    apply List.ext_getElem?
    intro k
    by_cases hk : k < ss.length
    · rw [cnts_get _ _ _ hk, dlens_get ss k hk, hcnt k hk]
    · rw [List.getElem?_eq_none (by rw [cnts_length]; omega), List.getElem?_eq_none (by rw [dlens_length]; omega)]
  have hsay : (List.range ss.length).map (sayG (fileB en ss) ss.length) = ss := by
    apply List.ext_getElem?
    intro k
    by_cases hk : k < ss.length
    · rw [List.getElem?_map, List.getElem?_range hk, List.getElem?_eq_getElem hk, Option.map_some]
      congr 1
      have hseg := hK.seg ss[k] (List.getElem_mem hk)
      have hf := okT_at hK.ok k hk hk
      have hd : dataK (fileB en ss) ss.length k = ss[k].data := by
        unfold dataK
        rw [hcn, hcnt k hk]
        apply List.ext_getElem?
        intro r
        rw [List.getElem?_take, List.getElem?_drop]
        by_cases hr : r < ss[k].data.length
        · rw [if_pos hr]; exact fileT_data en ss k hk _ (Nat.le_refl _) hk r hr
        · rw [if_neg hr, List.getElem?_eq_none (by omega)]
      unfold sayG sayS
      rw [hd, hrow k hk 16 8 ss[k].addr (by decide) (row_at16 _ _ _ _ _) (by have := hf.top; omega), hrow k hk 4 4 ss[k].perm.toNat (by decide) (row_at4 _ _ _ _ _) (by omega),
        hrow k hk 40 8 ss[k].size (by decide) (row_at40 _ _ _ _ _) (by have := hf.most; omega), Int.toNat_of_nonneg hseg.2.1]
    · rw [List.getElem?_eq_none (by simp; omega), List.getElem?_eq_none (by omega)]
  unfold readE
  rw [h56, if_neg (by omega), if_neg (by omega), if_neg (by omega), saysT_is _ _ (by omega) _ (Nat.le_refl _), hcn, if_pos (by rw [hl]; exact Nat.le_refl _), hsay]
  simp only
  rw [h24, if_neg (by rw [hc]; simp), diffTo_self, if_neg (by simp)]

structure GoodRead (l : List UInt8) (en : Nat) (ss : List Sgd) : Prop where
  check : checkE en ss = 0
  file : fileB en ss = l
  en : en = num l 24 8
  head : 64 ≤ l.length
  some_ : 1 ≤ num l 56 2
  few : num l 56 2 ≤ 8
  rows : 64 + 56 * num l 56 2 ≤ l.length
  len : l.length = endT (cnts l (num l 56 2)) (num l 56 2)
theorem read_good {l : List UInt8} {en : Nat} {ss : List Sgd} (h : readE l = .good en ss) : GoodRead l en ss := by
  unfold readE at h
  by_cases c1 : l.length < 64
  · rw [if_pos c1] at h; cases h
  rw [if_neg c1] at h
  by_cases c2 : num l 56 2 < 1 ∨ 8 < num l 56 2
  · rw [if_pos c2] at h; cases h
  rw [if_neg c2] at h
  by_cases c3 : l.length < 64 + 56 * num l 56 2
  · rw [if_pos c3] at h; cases h
  rw [if_neg c3, saysT_is _ _ (by omega) _ (Nat.le_refl _)] at h
  by_cases c4 : endT (cnts l (num l 56 2)) (num l 56 2) ≤ l.length
  · rw [if_pos c4] at h
    simp only at h
    by_cases c5 : checkE (num l 24 8) ((List.range (num l 56 2)).map (sayG l (num l 56 2))) ≠ 0
    · rw [if_pos c5] at h; cases h
    rw [if_neg c5] at h
    cases hd : diffTo l (fileB (num l 24 8) ((List.range (num l 56 2)).map (sayG l (num l 56 2)))) (min l.length (fileB (num l 24 8) ((List.range (num l 56 2)).map (sayG l (num l 56 2)))).length) with
    | some k => rw [hd] at h; cases h
    | none =>
      rw [hd] at h
      simp only at h
      by_cases c6 : l.length ≠ (fileB (num l 24 8) ((List.range (num l 56 2)).map (sayG l (num l 56 2)))).length
      · rw [if_pos c6] at h; cases h
      rw [if_neg c6] at h
      have c6 : l.length = (fileB (num l 24 8) ((List.range (num l 56 2)).map (sayG l (num l 56 2)))).length := by omega
      simp only [ReadR.good.injEq] at h
      obtain ⟨rfl, rfl⟩ := h
      have hlens : Go.Pat.dlens ((List.range (num l 56 2)).map (sayG l (num l 56 2))) = cnts l (num l 56 2) := by
        apply List.ext_getElem?
        intro k
        by_cases hk : k < num l 56 2
        · have hf := plAt_fits (cnts l (num l 56 2)) k (cnts_get l _ k hk) hk
          rw [cnts_get l _ k hk]
          simp only [Go.Pat.dlens, List.getElem?_map, List.getElem?_range hk, Option.map_some, sayG, sayS, dataK, List.length_take, List.length_drop]
          congr 1
          omega
        · rw [List.getElem?_eq_none (by simp [Go.Pat.dlens]; omega), List.getElem?_eq_none (by rw [cnts_length]; omega)]
      refine ⟨by omega, ?_, rfl, by omega, by omega, by omega, by omega, ?_⟩
      · apply List.ext_getElem?
        intro i
        by_cases hi : i < l.length
        · exact (diffTo_none hd i (by omega)).symm
        · rw [List.getElem?_eq_none (by omega), List.getElem?_eq_none (by omega)]
      · rw [fileB_length, hlens, List.length_map, List.length_range] at c6
        exact c6
  · rw [if_neg c4] at h
    cases h

/-- bytes that begin alike are not both files, but they are as long. -/
theorem read_alike {l m : List UInt8} {en en2 : Nat} {ss ss2 : List Sgd} (h : readE l = .good en ss) (h2 : readE m = .good en2 ss2) (ha : ∀ i, i < l.length → i < m.length → l[i]? = m[i]?) : l.length = m.length := by
  have g := read_good h
  have g2 := read_good h2
  have hd := g.head
  have hd2 := g2.head
  have hn : num l 56 2 = num m 56 2 := num_congr fun i hi => ha _ (by omega) (by omega)
  have hr := g.rows
  have hr2 := g2.rows
  rw [← hn] at hr2
  have hc : cnts l (num l 56 2) = cnts m (num l 56 2) := by
    unfold cnts
    refine List.map_congr_left fun k hk => ?_
    have hk := List.mem_range.1 hk
    exact num_congr fun i hi => ha _ (by omega) (by omega)
  rw [g.len, g2.len, ← hn, hc]
/-- a file whose first byte is wrong. -/
theorem read_zero {en : Nat} {ss : List Sgd} (hen : en < 18446744073709551616) (hc : checkE en ss = 0) : readE ((fileB en ss).set 0 0) = .bad 0 := by
  have hg := read_file hen hc
  have hG := read_good hg
  have hh := hG.head
  have h8 := hG.few
  have h1 := hG.some_
  have hr := hG.rows
  have hsame : ∀ i, 1 ≤ i → ((fileB en ss).set 0 0)[i]? = (fileB en ss)[i]? := fun i hi => by rw [List.getElem?_set_ne (by omega)]
  have hnum : ∀ a k, 1 ≤ a → num ((fileB en ss).set 0 0) a k = num (fileB en ss) a k := fun a k ha => num_congr fun i _ => hsame _ (by omega)
  have hlen : ((fileB en ss).set 0 0).length = (fileB en ss).length := List.length_set ..
  have hcn : cnts ((fileB en ss).set 0 0) (num (fileB en ss) 56 2) = cnts (fileB en ss) (num (fileB en ss) 56 2) := by
    unfold cnts
    exact List.map_congr_left fun k _ => hnum _ _ (by omega)
  have hs : saysT ((fileB en ss).set 0 0) (num (fileB en ss) 56 2) (num (fileB en ss) 56 2) = saysT (fileB en ss) (num (fileB en ss) 56 2) (num (fileB en ss) 56 2) := by
    rw [saysT_is _ _ (by omega) _ (Nat.le_refl _), saysT_is _ _ (by omega) _ (Nat.le_refl _), hcn, hlen]
    have : (List.range (num (fileB en ss) 56 2)).map (sayG ((fileB en ss).set 0 0) (num (fileB en ss) 56 2)) = (List.range (num (fileB en ss) 56 2)).map (sayG (fileB en ss) (num (fileB en ss) 56 2)) := by
      refine List.map_congr_left fun k hk => ?_
      have hk := List.mem_range.1 hk
      have hd : dataK ((fileB en ss).set 0 0) (num (fileB en ss) 56 2) k = dataK (fileB en ss) (num (fileB en ss) 56 2) k := by
        unfold dataK
        rw [hcn, show cntK ((fileB en ss).set 0 0) k = cntK (fileB en ss) k from hnum _ _ (by omega)]
        by_cases h0 : cntK (fileB en ss) k = 0
        · rw [h0, List.take_zero, List.take_zero]
        · have hp := plAt_head (cnts (fileB en ss) (num (fileB en ss) 56 2)) k (cnts_get _ _ k hk) h0
          congr 1
          apply List.ext_getElem?
          intro i
          rw [List.getElem?_drop, List.getElem?_drop]
          exact hsame _ (by omega)
      unfold sayG sayS
      rw [hd, hnum _ _ (by omega), hnum _ _ (by omega), hnum _ _ (by omega)]
    rw [this]
  have hd0 : diffTo ((fileB en ss).set 0 0) (fileB en ss) 1 = some 0 := by
    have h0 : ((fileB en ss).set 0 0)[0]? = some 0 := by rw [List.getElem?_set_self (by omega)]
    have h1 : (fileB en ss)[0]? = some 127 := by unfold fileB; rw [fileT_head en ss _ (Nat.le_refl _) 0 (by omega)]; rfl
    simp only [diffTo]
    rw [h0, h1]
    rfl
  unfold readE at hg ⊢
  rw [hlen, hnum 56 2 (by omega), hnum 24 8 (by omega), hs]
  rw [if_neg (by omega), if_neg (by omega), if_neg (by omega)]
  rw [if_neg (by omega), if_neg (by omega), if_neg (by omega)] at hg
  cases hT : saysT (fileB en ss) (num (fileB en ss) 56 2) (num (fileB en ss) 56 2) with
  | none => rw [hT] at hg; cases hg
  | some s2 e =>
    rw [hT] at hg
    simp only at hg ⊢
    by_cases c5 : checkE (num (fileB en ss) 24 8) s2 ≠ 0
    · rw [if_pos c5] at hg; cases hg
    rw [if_neg c5] at hg ⊢
    cases hd : diffTo (fileB en ss) (fileB (num (fileB en ss) 24 8) s2) (min (fileB en ss).length (fileB (num (fileB en ss) 24 8) s2).length) with
    | some k => rw [hd] at hg; cases hg
    | none =>
      rw [hd] at hg
      simp only at hg
      by_cases c6 : (fileB en ss).length ≠ (fileB (num (fileB en ss) 24 8) s2).length
      · rw [if_pos c6] at hg; cases hg
      rw [if_neg c6] at hg
      simp only [ReadR.good.injEq] at hg
      obtain ⟨e1, rfl⟩ := hg
      rw [e1, diffTo_some hd0 (by omega)]
end Go.Pat
