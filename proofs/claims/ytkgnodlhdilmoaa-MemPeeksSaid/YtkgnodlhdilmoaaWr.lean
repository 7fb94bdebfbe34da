/- elf.Write, elf.Size; patinaref04.Write, Size. -/
import Derived.Test.YtkgnodlhdilmoaaFile
import Derived.Deep.RegionHeld3
import Derived.Deep.DrawnRows
namespace Go.Pat
open Go Go.RowKit

structure CheckOK (en : Nat) (ss : List Sgd) : Prop where
  some_ : 1 ≤ ss.length
  few : ss.length ≤ 8
  ok : okT ss ss.length = true
  pages : pagT ss ss.length ≤ 4096
  entry : entT en ss ss.length = true
  four : en % 4 = 0
theorem check_ok {en : Nat} {ss : List Sgd} (h : checkE en ss = 0) : CheckOK en ss := by
  unfold checkE at h
  split at h
  · cases h
  · rename_i hn
    simp only [not_or, Nat.not_lt, Bool.not_eq_false] at hn
    obtain ⟨h1, h2, h3, h4, h5, h6⟩ := hn
    exact ⟨h1, h2, h3, h4, h5, by omega⟩
theorem check_no {en : Nat} {ss : List Sgd} (h : checkE en ss ≠ 0) : checkE en ss = 40 := by
  unfold checkE at h ⊢
  split
  · rfl
  · rename_i hn; rw [if_neg hn] at h; exact absurd rfl h
theorem allowedB_range {p : Int} (h : allowedB p = true) : 0 ≤ p ∧ p ≤ 7 := by
  simp only [allowedB, Bool.and_eq_true, decide_eq_true_eq] at h
  omega
theorem CheckOK.seg {en : Nat} {ss : List Sgd} (h : CheckOK en ss) : ∀ s ∈ ss, s.data.length ≤ 16777216 ∧ 0 ≤ s.perm ∧ s.perm ≤ 7 := by
  intro s hs
  obtain ⟨k, hk, rfl⟩ := List.getElem_of_mem hs
  have hf := okT_at h.ok k hk hk
  exact ⟨Nat.le_trans hf.fits hf.most, allowedB_range hf.perm⟩

/-- what both Size tell. -/
def sizeE (en : Nat) (ss : List Sgd) : Nat := if checkE en ss = 0 then endT (Go.Pat.dlens ss) ss.length else 0
theorem dlens_d (ss : List Sg) : Go.Pat.dlens (ss.map Sg.d) = ss.map fun s => s.data.length := by simp [Go.Pat.dlens, Sg.d]
/-- what both Write tell. -/
def WroteP (w : World) (en : Nat) (ss : List Sgd) (e : Ending) (w' : World) : Prop :=
  (checkE en ss = 0 ∧ ∃ g n, e = .returned (.tuple #[.slice (some ⟨g, 0, none⟩) n n, .int .i64 0]) ∧ Buf w' g (fileB en ss) ∧ w.heap.size ≤ g ∧ n = (fileB en ss).length ∧ n ≤ 140737488351232 ∧ Below w.heap.size w w') ∨
  (checkE en ss = 40 ∧ e = .returned (.tuple #[.slice none 0 0, .int .i64 40]) ∧ Below w.heap.size w w')
end Go.Pat
namespace Go.Proofs
open Go Go.RowKit Go.Pat

theorem rrow4_int (w : World) (addr perm size at_ len cap : Nat) (p : Int) (hp : p = (perm : Int)) (A : Option Addr) (haddr : addr < 18446744073709551616) (hperm : perm ≤ 7) (hsize : size < 18446744073709551616) (hat : at_ < 18446744073709551616) (hlen : len ≤ 140737488351232) :
    Calls Try.prog 71 #[.agg #[.int .u64 addr, .int .i64 p, .slice A len cap, .int .u64 size], .int .u64 at_] w fun e w' => ∃ A c, e = .returned (.slice A 56 c) ∧ Bs w'.heap.size w' A (rowB addr perm len size at_) ∧ Below w.heap.size w w' := by
  subst hp
  exact rrow4_any w addr perm size at_ len cap A haddr hperm hsize hat hlen

set_option maxHeartbeats 4000000 in
theorem eWrite_any (w : World) (A : Option Addr) (cap en : Nat) (ss : List Sg) (hP : SgsAt w.heap.size w A ss) (hen : en < 18446744073709551616) :
    Calls Try.prog 25 #[.agg #[.int .u64 en, .slice A ss.length cap]] w (WroteP w en (ss.map Sg.d)) := by
  have hb0 : Below w.heap.size w (w.alloc (.cells #[.int .u64 en, .slice A ss.length cap] 38)) := (Below.refl _ _).alloc (Nat.le_refl _) _
  go_enter Try.func25, Try.ntmps25
  go_wp2_with fail
  refine Calls.mono (eCheck_any _ A cap en ss ((hP.below hb0).mono hb0.size) hen) ?_
  rintro e w1 ⟨rfl, hB1⟩
  have hB : Below w.heap.size w w1 := hb0.trans (hB1.mono hb0.size)
  rw [World.size_alloc] at hB1
  obtain ⟨c0, c1⟩ := two_cells1 _ _ _ _ hB1
  by_cases hc : checkE en (ss.map Sg.d) = 0
  · have hd : (checkE en (ss.map Sg.d) != 0) = false := by rw [hc]; rfl
    have hK := check_ok hc
    have h8 := hK.few
    rw [List.length_map] at h8
    have hs2 : ∀ s ∈ ss, s.data.length ≤ 16777216 ∧ 0 ≤ s.perm ∧ s.perm ≤ 7 := fun s hs => hK.seg s.d (List.mem_map.2 ⟨s, hs, rfl⟩)
    have HC := Lib.hid hc
    clear hc hK
    go_wp2_with fail
    refine Calls.mono (efile_any _ A cap en ss ((hP.below hB).mono hB.size) h8 hen hs2) ?_
    rintro e w2 ⟨g, n, rfl, hbuf, hg, hn, hnm, hB2⟩
    have HN := Lib.hid hn
    clear hn hs2
    go_wp2
    go_ret2
    exact .inl ⟨HC.out, g, n, rfl, hbuf, Nat.le_trans hB.size hg, HN.out, hnm, hB.trans (hB2.mono hB.size)⟩
  · have hd : (checkE en (ss.map Sg.d) != 0) = true := by simpa using hc
    have h40 := check_no hc
    have HC := Lib.hid h40
    clear hc h40
    go_wp2
    go_ret2
    exact .inr ⟨HC.out, by rw [HC.out]; rfl, hB⟩

set_option maxHeartbeats 4000000 in
theorem eSize_any (w : World) (A : Option Addr) (cap en : Nat) (ss : List Sg) (hP : SgsAt w.heap.size w A ss) (hen : en < 18446744073709551616) :
    Calls Try.prog 29 #[.agg #[.int .u64 en, .slice A ss.length cap]] w fun e w' =>
      e = .returned (.tuple #[.int .i64 (sizeE en (ss.map Sg.d) : Nat), .int .i64 (checkE en (ss.map Sg.d))]) ∧ Below w.heap.size w w' := by
  have hb0 : Below w.heap.size w (w.alloc (.cells #[.int .u64 en, .slice A ss.length cap] 38)) := (Below.refl _ _).alloc (Nat.le_refl _) _
  go_enter Try.func29, Try.ntmps29
  go_wp2_with fail
  refine Calls.mono (eCheck_any _ A cap en ss ((hP.below hb0).mono hb0.size) hen) ?_
  rintro e w1 ⟨rfl, hB1⟩
  have hB : Below w.heap.size w w1 := hb0.trans (hB1.mono hb0.size)
  rw [World.size_alloc] at hB1
  obtain ⟨c0, c1⟩ := two_cells1 _ _ _ _ hB1
  by_cases hc : checkE en (ss.map Sg.d) = 0
  · have hd : (checkE en (ss.map Sg.d) != 0) = false := by rw [hc]; rfl
    have h8 := (check_ok hc).few
    rw [List.length_map] at h8
    have hz : sizeE en (ss.map Sg.d) = endT (ss.map fun s => s.data.length) ss.length := by unfold sizeE; rw [if_pos hc, dlens_d, List.length_map]
    have HC := Lib.hid (And.intro hc hz)
    clear hc hz
    go_wp2_with fail
    refine Calls.mono (eplaces_any _ A cap en ss ((hP.below hB).mono hB.size) h8) ?_
    rintro e w2 ⟨v, rfl, _, hB2⟩
    go_wp2
    go_ret2
    exact ⟨by rw [HC.out.1, HC.out.2]; rfl, hB.trans (hB2.mono hB.size)⟩
  · have hd : (checkE en (ss.map Sg.d) != 0) = true := by simpa using hc
    have hz : sizeE en (ss.map Sg.d) = 0 := by unfold sizeE; rw [if_neg hc]
    have HC := Lib.hid hz
    clear hc hz
    go_wp2
    go_ret2
    exact ⟨by rw [HC.out]; rfl, hB⟩

set_option maxHeartbeats 4000000 in
theorem rSize4_any (w : World) (A : Option Addr) (cap en : Nat) (ss : List Sg) (hP : SgsAt w.heap.size w A ss) (hen : en < 18446744073709551616) :
    Calls Try.prog 30 #[.agg #[.int .u64 en, .slice A ss.length cap]] w fun e w' =>
      e = .returned (.tuple #[.int .i64 (sizeE en (ss.map Sg.d) : Nat), .int .i64 (checkE en (ss.map Sg.d))]) ∧ Below w.heap.size w w' := by
  have hb0 : Below w.heap.size w (w.alloc (.cells #[.int .u64 en, .slice A ss.length cap] 38)) := (Below.refl _ _).alloc (Nat.le_refl _) _
  go_enter Try.func30, Try.ntmps30
  go_wp2_with fail
  refine Calls.mono (rCheck4_any _ A cap en ss ((hP.below hb0).mono hb0.size) hen) ?_
  rintro e w1 ⟨rfl, hB1⟩
  have hB : Below w.heap.size w w1 := hb0.trans (hB1.mono hb0.size)
  rw [World.size_alloc] at hB1
  obtain ⟨c0, c1⟩ := two_cells1 _ _ _ _ hB1
  by_cases hc : checkE en (ss.map Sg.d) = 0
  · have hd : (checkE en (ss.map Sg.d) != 0) = false := by rw [hc]; rfl
    have h8 := (check_ok hc).few
    rw [List.length_map] at h8
    have hz : sizeE en (ss.map Sg.d) = endT (ss.map fun s => s.data.length) ss.length := by unfold sizeE; rw [if_pos hc, dlens_d, List.length_map]
    have hel := endT_le (ls := ss.map fun s => s.data.length) (by intro m hm; obtain ⟨s, hs, rfl⟩ := List.mem_map.1 hm; exact (hP.small s hs).2.2) (by rw [List.length_map]; exact h8) ss.length h8
    have HC := Lib.hid (And.intro hc hz)
    clear hc hz
    go_wp2_with fail
    refine Calls.mono (rcounts4_any _ A cap en ss ((hP.below hB).mono hB.size) h8) ?_
    rintro e w2 ⟨v, rfl, hv, hB2⟩
    obtain ⟨A2, c2, rfl, hv2⟩ := hv.form
    rw [List.length_map] at *
    have hbB := hB.trans (hB2.mono hB.size)
    go_wp2_with fail
    refine Calls.mono (rplaces4_any _ A2 c2 ss.length _ (ss.map fun s => s.data.length) (List.length_map ..) hv2 (Nat.le_refl _) h8 (by intro m hm; obtain ⟨s, hs, rfl⟩ := List.mem_map.1 hm; exact (hP.small s hs).2.2)) ?_
    rintro e w3 ⟨v3, rfl, _, hB3⟩
    go_wp2
    go_ret2
    exact ⟨by rw [HC.out.1, HC.out.2]; rfl, hbB.trans (hB3.mono hbB.size)⟩
  · have hd : (checkE en (ss.map Sg.d) != 0) = true := by simpa using hc
    have h40 := check_no hc
    have hz : sizeE en (ss.map Sg.d) = 0 := by unfold sizeE; rw [if_neg hc]
    have HC := Lib.hid (And.intro h40 hz)
    clear hc hz h40
    go_wp2
    go_ret2
    exact ⟨by rw [HC.out.1, HC.out.2]; rfl, hB⟩
end Go.Proofs
