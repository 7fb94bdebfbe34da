/- What Map leaves and what patinaref02.Map answers are the same pages. -/
import Derived.Test.YtkgnodlhdilmoaaRMap2
import Derived.Test.YtkgnodlhdilmoaaSame2
namespace Go.Pat
open Go Go.RowKit Go.Proofs

set_option maxRecDepth 4000 in
theorem anyThere_iff {fs : List Fr} {base : Nat} (hb : base % 4096 = 0) (hok : ∀ f ∈ fs, f.base % 4096 = 0) (n : Nat) : anyThere fs base n = true ↔ ∃ f ∈ fs, base ≤ f.base ∧ f.base - base < n * 4096 := by
  induction n with
  | zero =>
    constructor
    · intro h; cases h
    · rintro ⟨f, _, _, h⟩; rw [Nat.zero_mul] at h; exact absurd h (Nat.not_lt_zero _)
  | succ n ih =>
    rw [show anyThere fs base (n + 1) = (anyThere fs base n || (pageOf fs (base + n * 4096)).isSome) from rfl, Bool.or_eq_true, ih]
    constructor
    · rintro (⟨f, hf, h1, h2⟩ | h)
      · exact ⟨f, hf, h1, Nat.lt_of_lt_of_le h2 (Nat.mul_le_mul_right _ (Nat.le_succ n))⟩
      · obtain ⟨f, hf⟩ := Option.isSome_iff_exists.1 h
        have h1 := pageOf_base hf
        exact ⟨f, List.mem_of_find?_eq_some hf, by omega, by omega⟩
    · rintro ⟨f, hf, h1, h2⟩
      have h3 := hok f hf
      by_cases h4 : f.base - base < n * 4096
      · exact .inl ⟨f, hf, h1, h4⟩
      · right
        unfold pageOf frAt
        rw [List.find?_isSome]
        exact ⟨f, hf, by simp; omega⟩

theorem strict_eq {a b : List Pgd} (h : a.Perm b) (ha : a.Pairwise (fun x y => x.base < y.base)) (hb : b.Pairwise (fun x y => x.base < y.base)) : a = b :=
  List.Perm.eq_of_pairwise (le := fun x y => x.base < y.base) (fun x y _ _ h1 h2 => by omega) ha hb h

theorem sortF_strict {fs : List Fr} (hk : (fs.map (·.base)).Nodup) : ((sortF fs).map Fr.pg).Pairwise (fun x y => x.base < y.base) := by
  rw [List.pairwise_map]
  have h1 : (sortF fs).Pairwise (fun a b => decide ((a.base : Int) ≤ (b.base : Int)) = true) :=
    List.pairwise_mergeSort (fun a b c h1 h2 => by simp at h1 h2 ⊢; omega) (fun a b => by simp; omega) fs
  have h2 : (sortF fs).Pairwise (fun a b => a.base ≠ b.base) := by
    have : ((sortF fs).map (·.base)).Nodup := ((sortF_perm fs).map _).nodup_iff.2 hk
    exact List.pairwise_map.1 this
  refine (h1.and h2).imp ?_
  rintro a b ⟨h3, h4⟩
  simp at h3
  show a.base < b.base
  omega

theorem fresh_rises (b : Nat) (perm : Int) (n : Nat) : (fresh b perm n).Pairwise (fun x y => x.base < y.base) := by
  unfold fresh
  rw [List.pairwise_map]
  exact List.pairwise_lt_range.imp (fun h => by show _ + _ < _ + _; omega)

theorem refMap_rises {l : List Pgd} {b n : Nat} {perm : Int} (hr : l.Pairwise (fun x y => x.base < y.base)) (hno : ∀ p ∈ l, ¬ inMap b n p) (hn : 1 ≤ n) : (refMap l b perm n).Pairwise (fun x y => x.base < y.base) := by
  have hlo : ∀ p ∈ l.take (aheadP l b), p.base < b := fun p hp => by
    obtain ⟨i, hi, rfl⟩ := List.getElem_of_mem hp
    have hi2 : i < aheadP l b ∧ i < l.length := by simp at hi; omega
    have h1 := ahead_lt hi2.1 hi2.2
    have h2 := hno l[i] (List.getElem_mem _)
    rw [List.getElem_take]
    rcases Nat.lt_or_ge l[i].base b with h | h
    · exact h
    · exact absurd ⟨h, by omega⟩ h2
  have hhi : ∀ p ∈ l.drop (aheadP l b), b + n * 4096 ≤ p.base := fun p hp => by
    obtain ⟨i, hi, rfl⟩ := List.getElem_of_mem hp
    rw [List.length_drop] at hi
    rw [List.getElem_drop]
    have hml : aheadP l b < l.length := by omega
    have h1 := ahead_at hml
    have h2 : b < l[aheadP l b + i].base := by
      rcases Nat.eq_zero_or_pos i with rfl | h
      · exact h1
      · exact Nat.lt_trans h1 ((List.pairwise_iff_getElem.1 hr) _ _ hml (by omega) (by omega))
    have h3 := hno l[aheadP l b + i] (List.getElem_mem _)
    rcases Nat.lt_or_ge l[aheadP l b + i].base (b + n * 4096) with h | h
    · exact absurd ⟨by omega, by omega⟩ h3
    · exact h
  have hfr : ∀ p ∈ fresh b perm n, b ≤ p.base ∧ p.base < b + n * 4096 := fun p hp => by
    obtain ⟨i, hi, rfl⟩ := List.mem_map.1 hp
    have := List.mem_range.1 hi
    exact ⟨by show b ≤ b + i * 4096; omega, by show b + i * 4096 < _; omega⟩
  unfold refMap
  refine List.pairwise_append.2 ⟨List.pairwise_append.2 ⟨hr.sublist (List.take_sublist _ _), fresh_rises b perm n, fun x hx y hy => ?_⟩, hr.sublist (List.drop_sublist _ _), fun x hx y hy => ?_⟩
  · have := hlo x hx; have := hfr y hy; omega
  · have := hhi y hy
    rcases List.mem_append.1 hx with hx | hx
    · have := hlo x hx; omega
    · have := hfr x hx; omega

theorem refMap_perm (l : List Pgd) (b n : Nat) (perm : Int) : (refMap l b perm n).Perm (l ++ fresh b perm n) := by
  unfold refMap
  have h : l = l.take (aheadP l b) ++ l.drop (aheadP l b) := (List.take_append_drop _ _).symm
  have h2 : (l.take (aheadP l b) ++ fresh b perm n ++ l.drop (aheadP l b)).Perm (l.take (aheadP l b) ++ l.drop (aheadP l b) ++ fresh b perm n) := by
    rw [List.append_assoc, List.append_assoc]
    exact List.Perm.append_left _ List.perm_append_comm
  rw [List.take_append_drop] at h2
  exact h2

theorem map_same {fs news : List Fr} {l : List Pgd} {b n : Nat} {perm : Int} (hfs : fs.map Fr.pg = l) (hok : PsOK l) (hnews : news.map Fr.pg = fresh b perm n) (hk : ((fs ++ news).map (·.base)).Nodup) (hno : ∀ p ∈ l, ¬ inMap b n p) (hn : 1 ≤ n) :
    (sortF (fs ++ news)).map Fr.pg = refMap l b perm n := by
  refine strict_eq ?_ (sortF_strict hk) (refMap_rises hok.rises hno hn)
  refine ((sortF_perm _).map Fr.pg).trans ?_
  rw [List.map_append, hfs, hnews]
  exact (refMap_perm l b n perm).symm

theorem inMap_iff {fs : List Fr} {l : List Pgd} {b n : Nat} (hfs : fs.map Fr.pg = l) (hok : PsOK l) (hb : b % 4096 = 0) : anyThere fs b n = true ↔ ∃ p ∈ l, inMap b n p := by
  rw [anyThere_iff hb (fun f hf => (hok.ok f.pg (by rw [← hfs]; exact List.mem_map.2 ⟨f, hf, rfl⟩)).page)]
  constructor
  · rintro ⟨f, hf, h1, h2⟩
    exact ⟨f.pg, by rw [← hfs]; exact List.mem_map.2 ⟨f, hf, rfl⟩, h1, h2⟩
  · rintro ⟨p, hp, h1, h2⟩
    rw [← hfs] at hp
    obtain ⟨f, hf, rfl⟩ := List.mem_map.1 hp
    exact ⟨f, hf, h1, h2⟩
end Go.Pat
