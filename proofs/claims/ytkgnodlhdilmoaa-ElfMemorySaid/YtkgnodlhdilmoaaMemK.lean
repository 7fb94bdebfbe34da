/- What follows from the contracts of package mem: bytes that were stored are read again; patinalaw02.speaks. -/
import Derived.Test.YtkgnodlhdilmoaaMemF
namespace Go.Pat
open Go Go.RowKit

theorem pageOf_congr {fs : List Fr} {a b : Nat} (h : a / 4096 = b / 4096) : pageOf fs a = pageOf fs b := by unfold pageOf; rw [h]
theorem pageOf_base {fs : List Fr} {a : Nat} {f : Fr} (h : pageOf fs a = some f) : f.base = a / 4096 * 4096 := by have := List.find?_some h; simpa using this

theorem byteM_setB {fs : List Fr} {a : Nat} {f : Fr} (c : UInt8) (hf : pageOf fs a = some f) (hl : f.data.length = 4096) (b : Nat) :
    byteM (setB fs a c) b = if a = b then c.toNat else byteM fs b := by
  unfold byteM
  rw [pageOf_setB]
  by_cases hp : a / 4096 = b / 4096
  · rw [← pageOf_congr hp, hf]
    simp only [Option.map_some, if_pos (pageOf_base hf)]
    by_cases e : a = b
    · subst e
      rw [if_pos rfl]
      have : a % 4096 < f.data.length := by omega
      simp [List.getD_eq_getElem?_getD, this]
    · rw [if_neg e]
      have h2 : a % 4096 ≠ b % 4096 := by omega
      simp [List.getD_eq_getElem?_getD, h2]
  · have e : a ≠ b := by rintro rfl; exact hp rfl
    rw [if_neg e]
    cases hb : pageOf fs b with
    | none => rfl
    | some g =>
      have hg := pageOf_base hb
      simp only [Option.map_some]
      rw [if_neg (by omega)]
theorem pageOf_store_none {fs : List Fr} {b : Nat} (h : pageOf fs b = none) (at_ v k : Nat) : pageOf (storeTo fs at_ v k) b = none := by
  induction k with
  | zero => exact h
  | succ k ih => rw [storeTo, pageOf_setB, ih]; rfl
def lens (fs : List Fr) : Prop := ∀ f ∈ fs, f.data.length = 4096
theorem lens_setB {fs : List Fr} (h : lens fs) (a : Nat) (c : UInt8) : lens (setB fs a c) := by
  intro f hf
  obtain ⟨g, hg, rfl⟩ := List.mem_map.1 hf
  have := h g hg
  split
  · simpa using this
  · exact this
theorem lens_store {fs : List Fr} (h : lens fs) (at_ v k : Nat) : lens (storeTo fs at_ v k) := by
  induction k with
  | zero => exact h
  | succ k ih => exact lens_setB ih _ _
theorem MemAt.lens {w : World} {p mb : Nat} {fs : List Fr} (h : MemAt w p mb fs) : Go.Pat.lens fs := fun f hf => (h.pages f hf).1

/-- a byte behind a store. -/
theorem byteM_store {fs : List Fr} (hl : lens fs) (at_ v k : Nat) (hp : ∀ i, i < k → ∃ f, pageOf fs (at_ + i) = some f) (b : Nat) :
    byteM (storeTo fs at_ v k) b = if at_ ≤ b ∧ b < at_ + k then v / 256 ^ (b - at_) % 256 else byteM fs b := by
  induction k with
  | zero => rw [if_neg (by omega)]; rfl
  | succ k ih =>
    obtain ⟨f, hf⟩ := hp k (by omega)
    obtain ⟨g, hg, _⟩ := pageOf_store hf at_ v k
    rw [storeTo, byteM_setB _ hg (lens_store hl at_ v k g (List.mem_of_find?_eq_some hg)), ih (fun i hi => hp i (by omega))]
    by_cases e : at_ + k = b
    · subst e
      rw [if_pos rfl, if_pos (by omega), UInt8.toNat_ofNat', show at_ + k - at_ = k by omega]
    · rw [if_neg e]
      by_cases h2 : at_ ≤ b ∧ b < at_ + k
      · rw [if_pos h2, if_pos (by omega)]
      · rw [if_neg h2, if_neg (by omega)]

/-- what is asked hangs on places and permissions alone. -/
theorem askTo_store (fs : List Fr) (at_ v k b : Nat) (perm : Int) (n : Nat) : askTo (storeTo fs at_ v k) b perm n = askTo fs b perm n := by
  induction n with
  | zero => rfl
  | succ n ih =>
    simp only [askTo, ih]
    cases hb : pageOf fs (b + n) with
    | none => rw [pageOf_store_none hb]
    | some f =>
      obtain ⟨g, hg, _, hp, _⟩ := pageOf_store hb at_ v k
      rw [hg]
      simp only [hp]
theorem askedM_store (fs : List Fr) (at_ v k b : Nat) (perm : Int) (n : Nat) : askedM (storeTo fs at_ v k) b n perm = askedM fs b n perm := by
  unfold askedM
  rw [askTo_store]
end Go.Pat
namespace Go.Proofs
open Go Go.RowKit Go.Pat

/-- the memory that speaks asks. -/
theorem speaks_mem {news : List Fr} (h : news.map Fr.pg = fresh 4096 6 (mapN 5000)) :
    askedM news 8190 4 2 = 0 ∧ loadM (storeTo news 8190 67305985 4) 8191 2 = (770, 0) ∧ loadM (storeTo news 8190 67305985 4) 12288 1 = (0, 20) := by
  have h2 : news.map Fr.pg = [⟨4096, 6, zeros⟩, ⟨8192, 6, zeros⟩] := h
  obtain ⟨f0, f1, rfl⟩ : ∃ f0 f1, news = [f0, f1] := by
    have hlen := congrArg List.length h2
    simp only [List.length_map, List.length_cons, List.length_nil] at hlen
    cases news with
    | nil => cases hlen
    | cons f0 r => cases r with
      | nil => cases hlen
      | cons f1 r2 => cases r2 with
        | nil => exact ⟨f0, f1, rfl⟩
        | cons f2 r3 => simp at hlen
  · simp only [List.map_cons, List.map_nil, List.cons.injEq, Fr.pg, Pgd.mk.injEq, and_true] at h2
    obtain ⟨⟨a1, a2, a3⟩, b1, b2, b3⟩ := h2
    have hl : lens [f0, f1] := by
      intro f hf
      simp only [List.mem_cons, List.not_mem_nil, or_false] at hf
      rcases hf with rfl | rfl
      · rw [a3]; exact zeros_length
      · rw [b3]; exact zeros_length
    have p0 : ∀ a, 4096 ≤ a → a < 8192 → pageOf [f0, f1] a = some f0 := by
      intro a h1 h2
      unfold pageOf frAt
      rw [show a / 4096 * 4096 = 4096 by omega]
      simp [a1]
    have p1 : ∀ a, 8192 ≤ a → a < 12288 → pageOf [f0, f1] a = some f1 := by
      intro a h1 h2
      unfold pageOf frAt
      rw [show a / 4096 * 4096 = 8192 by omega]
      simp [a1, b1]
    have p2 : pageOf [f0, f1] 12288 = none := by
      unfold pageOf frAt
      simp [a1, b1]
    have o2 : pOK 6 2 = true := by decide
    have o4 : pOK 6 4 = true := by decide
    have ha : ∀ perm, pOK 6 perm = true → askTo [f0, f1] 8190 perm 4 = 0 ∧ askTo [f0, f1] 8191 perm 2 = 0 := by
      intro perm hp
      constructor
      · simp [askTo, p0 8190 (by omega) (by omega), p0 8191 (by omega) (by omega), p1 8192 (by omega) (by omega), p1 8193 (by omega) (by omega), a2, b2, hp]
      · simp [askTo, p0 8191 (by omega) (by omega), p1 8192 (by omega) (by omega), a2, b2, hp]
    have hpg : ∀ i, i < 4 → ∃ f, pageOf [f0, f1] (8190 + i) = some f := by
      intro i hi
      by_cases e : 8190 + i < 8192
      · exact ⟨f0, p0 _ (by omega) e⟩
      · exact ⟨f1, p1 _ (by omega) (by omega)⟩
    refine ⟨?_, ?_, ?_⟩
    · simp [askedM, (ha 2 o2).1]
    · have e1 : byteM (storeTo [f0, f1] 8190 67305985 4) 8191 = 2 := by rw [byteM_store hl _ _ _ hpg, if_pos (by omega)]
      have e2 : byteM (storeTo [f0, f1] 8190 67305985 4) 8192 = 3 := by rw [byteM_store hl _ _ _ hpg, if_pos (by omega)]
      have e3 : askedM (storeTo [f0, f1] 8190 67305985 4) 8191 2 4 = 0 := by rw [askedM_store]; simp [askedM, (ha 4 o4).2]
      have e4 : wide 2 = true := rfl
      have e5 : Int.toNat 2 = 2 := rfl
      simp only [loadM, e4, e5, e3, if_true, numM, e1, e2]
    · have e3 : askedM (storeTo [f0, f1] 8190 67305985 4) 12288 1 4 = 20 := by rw [askedM_store]; simp [askedM, askTo, p2]
      have e4 : wide 1 = true := rfl
      have e5 : Int.toNat 1 = 1 := rfl
      simp only [loadM, e4, e5, e3, if_true]
      rfl

theorem mapE_speaks : mapE [] 4096 6 5000 = 0 := by decide

set_option maxHeartbeats 1000000 in
theorem speaks2_true (w : World) : Calls Try.prog 19 #[] w fun e w' => e = .returned (.bool true) ∧ Below w.heap.size w w' := by
  go_enter Try.func19, Try.ntmps19
  go_wp2_with (go_at_call 54; refine (New_any _).mono ?_; rintro e w0 ⟨p, mb, rfl, hM0, hB0, hp, hmb⟩)
  go_wp2_with fail
  refine (Map_ok _ p mb [] hM0 (by simp) 4096 5000 6 (by decide) (by decide) (by decide) (by decide)).mono ?_
  rintro e w1 ⟨rfl, news, hn, hM1, hge1, hK1⟩
  obtain ⟨s1, s2, s3⟩ := speaks_mem hn
  rw [List.nil_append] at hM1
  have HS := Lib.hid (And.intro s2 s3)
  clear s2 s3 hn
  go_wp2_with fail
  refine (Store_any _ p mb news hM1 8190 67305985 4 (by decide) rfl (by decide) (by decide) s1).mono ?_
  rintro e w2 ⟨rfl, hM2, hK2⟩
  clear s1
  go_wp2_with fail
  refine (Load_any _ p mb _ hM2 8191 2 (by decide)).mono ?_
  rintro e w3 ⟨rfl, hB3⟩
  rw [HS.out.1]
  go_wp2_with fail
  refine (Load_any _ p mb _ (hM2.below hM2.lt hB3) 12288 1 (by decide)).mono ?_
  rintro e w4 ⟨rfl, hB4⟩
  rw [HS.out.2]
  go_wp2_with fail
  go_ret
  refine ⟨rfl, ?_⟩
  have b1 : Below w.heap.size w0 w1 := hK1.below hB0.size (by rintro k rfl; exact hmb)
  have b2 : Below w.heap.size w1 w2 := hK2.below (Nat.le_trans hB0.size b1.size) (by
    intro k hk
    obtain ⟨f, hf, rfl⟩ := List.mem_map.1 hk
    exact Nat.le_trans hB0.size (hge1 f hf))
  exact ((hB0.trans b1).trans b2).trans ((hB3.mono (by have := hB0.size; have := b1.size; have := b2.size; omega)).trans (hB4.mono (by have := hB0.size; have := b1.size; have := b2.size; have := hB3.size; omega)))
end Go.Proofs
