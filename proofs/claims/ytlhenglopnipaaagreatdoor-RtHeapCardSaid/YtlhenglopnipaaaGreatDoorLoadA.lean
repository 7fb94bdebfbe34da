/- patinalaw02.MemHalves: the walk. -/
import Derived.Test.YtlhenglopnipaaaGreatDoorMemTop
import Derived.Test.YtlhenglopnipaaaGreatDoorFiles
namespace Go.Pat
open Go Go.RowKit Go.Proofs

theorem askTo_of {fs : List Fr} {a : Nat} {perm : Int} {n : Nat} (h : ∀ i, i < n → ∃ f, pageOf fs (a + i) = some f ∧ pOK f.perm perm = true) : askTo fs a perm n = 0 := by
  induction n with
  | zero => rfl
  | succ n ih =>
    obtain ⟨f, h1, h2⟩ := h n (by omega)
    simp [askTo, ih (fun i hi => h i (by omega)), h1, h2]
end Go.Pat
namespace Go.Proofs
open Go Go.RowKit Go.Pat

end Go.Proofs

/- Pages that are right. -/
namespace Go.Pat
open Go Go.RowKit
structure PgOK (p : Pgd) : Prop where
  page : p.base % 4096 = 0
  top : p.base < 281474976710656
  len : p.data.length = 4096
  perm : allowedB p.perm = true
/-- pages that are right. -/
structure PsOK (ps : List Pgd) : Prop where
  ok : ∀ p ∈ ps, PgOK p
  rises : ps.Pairwise (fun a b => a.base < b.base)
end Go.Pat

/- The plain laws of an image's pages. -/
namespace Go.Pat
open Go Go.RowKit
def pageB (d : List UInt8) (i : Nat) : List UInt8 := splice (List.replicate 4096 0) 0 ((d.drop (4096 * i)).take 4096)
theorem pageB_length (d : List UInt8) (i : Nat) : (pageB d i).length = 4096 := by
  unfold pageB
  rw [length_splice _ _ _ (by rw [List.length_replicate, List.length_take, List.length_drop]; omega), List.length_replicate]
theorem pageB_get (d : List UInt8) (i r : Nat) (hr : r < 4096) : (pageB d i)[r]? = some (d.getD (4096 * i + r) 0) := by
  unfold pageB
  have hl : ((d.drop (4096 * i)).take 4096).length = min 4096 (d.length - 4096 * i) := by rw [List.length_take, List.length_drop]
  rw [splice_get _ _ _ (by rw [List.length_replicate, hl]; omega), hl, List.getD_eq_getElem?_getD]
  by_cases h : 4096 * i + r < d.length
  · rw [if_pos (by omega), Nat.sub_zero, List.getElem?_take, if_pos hr, List.getElem?_drop, List.getElem?_eq_getElem h]; rfl
  · rw [if_neg (by omega), List.getElem?_replicate, if_pos hr, List.getElem?_eq_none (by omega)]; rfl
def segN (s : Sgd) : Nat := (s.size + 4095) / 4096
def segP (s : Sgd) (i : Nat) : Pgd := ⟨s.addr + 4096 * i, s.perm, pageB s.data i⟩
def segPs (s : Sgd) (k : Nat) : List Pgd := (List.range k).map (segP s)
theorem segPs_succ (s : Sgd) (k : Nat) : segPs s (k + 1) = segPs s k ++ [segP s k] := by simp [segPs, List.range_succ]
def loadT (ss : List Sgd) : Nat → List Pgd
  | 0 => []
  | k + 1 => loadT ss k ++ (match ss[k]? with | none => [] | some s => segPs s (segN s))
theorem loadT_succ {ss : List Sgd} {k : Nat} {s : Sgd} (h : ss[k]? = some s) : loadT ss (k + 1) = loadT ss k ++ segPs s (segN s) := by rw [loadT, h]
theorem loadT_length (ss : List Sgd) (k : Nat) : (loadT ss k).length = pagT ss k := by
  induction k with
  | zero => rfl
  | succ k ih =>
    rw [loadT, pagT, List.length_append, ih]
    cases ss[k]? with
    | none => rfl
    | some s => simp [segPs, segN, roundN]
theorem segP_ok {s : Sgd} {after : Nat} (h : SegFacts s after) (i : Nat) (hi : i < segN s) : PgOK (segP s i) ∧ (segP s i).base < s.addr + s.size := by
  have h1 := h.page
  have h2 := h.top
  have h3 : 4096 * i < s.size := by unfold segN at hi; omega
  exact ⟨⟨by show (s.addr + 4096 * i) % 4096 = 0; omega, by show s.addr + 4096 * i < _; omega, pageB_length _ _, h.perm⟩, by show s.addr + 4096 * i < _; omega⟩
theorem loadT_ok {ss : List Sgd} {n : Nat} (hok : okT ss n = true) (hn : n ≤ ss.length) (k : Nat) (hk : k ≤ n) :
    (∀ p ∈ loadT ss k, PgOK p ∧ p.base < aftT ss k) ∧ (loadT ss k).Pairwise (fun a b => a.base < b.base) := by
  induction k with
  | zero => exact ⟨by simp [loadT], List.Pairwise.nil⟩
  | succ k ih =>
    obtain ⟨ih1, ih2⟩ := ih (by omega)
    have hkl : k < ss.length := by omega
    have hF := okT_at hok k (by omega) hkl
    have hg : ss[k]? = some ss[k] := List.getElem?_eq_getElem hkl
    have ha : aftT ss (k + 1) = roundN (ss[k].addr + ss[k].size) := by rw [aftT, hg]
    have haf := hF.after
    have hps := hF.pos
    have hr : ss[k].addr + ss[k].size ≤ roundN (ss[k].addr + ss[k].size) := by unfold roundN; omega
    rw [loadT_succ hg, ha]
    refine ⟨fun p hp => ?_, List.pairwise_append.2 ⟨ih2, List.pairwise_map.2 (List.pairwise_lt_range.imp fun {a b} h => by show ss[k].addr + 4096 * a < ss[k].addr + 4096 * b; omega), fun a ha b hb => ?_⟩⟩
    · rcases List.mem_append.1 hp with hp | hp
      · obtain ⟨h1, h2⟩ := ih1 p hp
        exact ⟨h1, by omega⟩
      · obtain ⟨i, hi, rfl⟩ := List.mem_map.1 hp
        obtain ⟨h1, h2⟩ := segP_ok hF i (List.mem_range.1 hi)
        exact ⟨h1, by omega⟩
    · obtain ⟨i, hi, rfl⟩ := List.mem_map.1 hb
      have := (ih1 a ha).2
      show a.base < ss[k].addr + 4096 * i
      omega
theorem wrongTo_zero {ps : List Pgd} (h1 : ∀ p ∈ ps, PgOK p) (h2 : ps.Pairwise (fun a b => a.base < b.base)) (n : Nat) (hn : n ≤ ps.length) : wrongTo ps n = 0 := by
  induction n with
  | zero => rfl
  | succ n ih =>
    rw [wrongTo, ih (by omega), if_pos rfl]
    have hk : n < ps.length := by omega
    have hp := h1 ps[n] (List.getElem_mem hk)
    unfold wrongAt
    rw [List.getElem?_eq_getElem hk]
    simp only
    rw [if_neg, if_pos hp.perm]
    rintro (h | h | ⟨h0, h⟩ | h)
    · exact h hp.page
    · have := hp.top; omega
    · have hl := List.pairwise_iff_getElem.1 h2 (n - 1) n (by omega) hk (by omega)
      rw [List.getD_eq_getElem?_getD, List.getElem?_map, List.getElem?_eq_getElem (show n - 1 < ps.length by omega)] at h
      simp only [Option.map_some, Option.getD_some] at h
      omega
    · exact h hp.len
theorem fromE_ok {ps : List Pgd} (h1 : ∀ p ∈ ps, PgOK p) (h2 : ps.Pairwise (fun a b => a.base < b.base)) (hl : ps.length ≤ 4096) : fromE ps = 0 := by
  unfold fromE
  rw [if_neg (by omega)]
  exact wrongTo_zero h1 h2 _ (Nat.le_refl _)
theorem load_pages {en : Nat} {ss : List Sgd} (hc : checkE en ss = 0) : (∀ p ∈ loadT ss ss.length, PgOK p) ∧ (loadT ss ss.length).Pairwise (fun a b => a.base < b.base) ∧ (loadT ss ss.length).length ≤ 4096 := by
  have hK := check_ok hc
  obtain ⟨h1, h2⟩ := loadT_ok hK.ok (Nat.le_refl _) ss.length (Nat.le_refl _)
  exact ⟨fun p hp => (h1 p hp).1, h2, by rw [loadT_length]; exact hK.pages⟩
theorem load_from {en : Nat} {ss : List Sgd} (hc : checkE en ss = 0) : fromE (loadT ss ss.length) = 0 := by
  obtain ⟨h1, h2, h3⟩ := load_pages hc
  exact fromE_ok h1 h2 h3
theorem loadT_mem {ss : List Sgd} {k n : Nat} (hk : k < n) (hl : k < ss.length) (i : Nat) (hi : i < segN ss[k]) : segP ss[k] i ∈ loadT ss n := by
  induction n with
  | zero => omega
  | succ n ih =>
    by_cases e : k = n
    · subst e
      rw [loadT_succ (List.getElem?_eq_getElem hl)]
      exact List.mem_append_right _ (List.mem_map.2 ⟨i, List.mem_range.2 hi, rfl⟩)
    · rw [loadT]
      exact List.mem_append_left _ (ih (by omega))
theorem base_inj {ps : List Pgd} (h2 : ps.Pairwise (fun a b => a.base < b.base)) {p q : Pgd} (hp : p ∈ ps) (hq : q ∈ ps) (h : p.base = q.base) : p = q := by
  obtain ⟨i, hi, rfl⟩ := List.getElem_of_mem hp
  obtain ⟨j, hj, rfl⟩ := List.getElem_of_mem hq
  have hw := List.pairwise_iff_getElem.1 h2
  by_cases h1 : i < j
  · have := hw i j hi hj h1; omega
  · by_cases h3 : j < i
    · have := hw j i hj hi h3; omega
    · obtain rfl : i = j := by omega
      rfl
theorem pageOf_of {fs : List Fr} {ps : List Pgd} (hfs : fs.map Fr.pg = ps) (h2 : ps.Pairwise (fun a b => a.base < b.base)) {q : Pgd} (hq : q ∈ ps) {a : Nat} (ha : a / 4096 * 4096 = q.base) : ∃ f, pageOf fs a = some f ∧ f.pg = q := by
  unfold pageOf frAt
  rw [ha]
  cases hf : fs.find? (fun f => f.base == q.base) with
  | none =>
    rw [← hfs] at hq
    obtain ⟨f, hm, rfl⟩ := List.mem_map.1 hq
    have := List.find?_eq_none.1 hf f hm
    simp [Fr.pg] at this
  | some f =>
    have h3 : f.base = q.base := by have := List.find?_some hf; simpa using this
    have h4 : f.pg ∈ ps := by rw [← hfs]; exact List.mem_map.2 ⟨f, List.mem_of_find?_eq_some hf, rfl⟩
    exact ⟨f, rfl, base_inj h2 h4 hq h3⟩
/-- each segment's bytes stand where it says. -/
theorem load_byte {en : Nat} {ss : List Sgd} (hc : checkE en ss = 0) {fs : List Fr} (hfs : fs.map Fr.pg = loadT ss ss.length) (k : Nat) (hk : k < ss.length) (j : Nat) (hj : j < ss[k].data.length) :
    ∃ f, pageOf fs (ss[k].addr + j) = some f ∧ f.perm = ss[k].perm ∧ byteM fs (ss[k].addr + j) = (ss[k].data[j]).toNat := by
  have hK := check_ok hc
  have hF := okT_at hK.ok k hk hk
  obtain ⟨_, h2, _⟩ := load_pages hc
  have hfi := hF.fits
  have hpg := hF.page
  have hi : j / 4096 < segN ss[k] := by unfold segN; omega
  have hm := loadT_mem (n := ss.length) hk hk (j / 4096) hi
  obtain ⟨f, hf, he⟩ := pageOf_of hfs h2 hm (a := ss[k].addr + j) (by show _ = ss[k].addr + 4096 * (j / 4096); omega)
  refine ⟨f, hf, congrArg Pgd.perm he, ?_⟩
  unfold byteM
  rw [hf]
  have hd : f.data = pageB ss[k].data (j / 4096) := congrArg Pgd.data he
  simp only
  rw [hd, List.getD_eq_getElem?_getD, show (ss[k].addr + j) % 4096 = j % 4096 by omega, pageB_get _ _ _ (Nat.mod_lt _ (by decide)), show 4096 * (j / 4096) + j % 4096 = j by omega, List.getD_eq_getElem?_getD, List.getElem?_eq_getElem hj]
  rfl
end Go.Pat
