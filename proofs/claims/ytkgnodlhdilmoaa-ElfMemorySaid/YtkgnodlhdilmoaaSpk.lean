/- patinalaw04.image, speaks. -/
import Derived.Test.YtkgnodlhdilmoaaRead2
namespace Go.Pat
open Go Go.RowKit
def imgS : List Sgd := [⟨65536, 5, [115, 0, 0, 0], 4⟩]
theorem imgS_ok : checkE 65536 imgS = 0 := by decide
theorem imgS_len : (fileB 65536 imgS).length = 4100 := by rw [fileB_length]; decide
theorem imgS_at (h : 4096 < (fileB 65536 imgS).length) : (fileB 65536 imgS)[4096] = 115 := by
  have h1 := fileT_data 65536 imgS 0 (by decide) imgS.length (Nat.le_refl _) (by decide) 0 (by decide)
  have h2 : plAt (Go.Pat.dlens imgS) 0 + 0 = 4096 := by decide
  rw [h2] at h1
  have h3 : (fileB 65536 imgS)[4096]? = some 115 := h1
  rw [List.getElem?_eq_getElem h] at h3
  exact Option.some.inj h3
theorem imgS_zero : readE ((fileB 65536 imgS).set 0 0) = .bad 0 := read_zero (by decide) imgS_ok
end Go.Pat
namespace Go.Proofs
open Go Go.RowKit Go.Pat

theorem image4_any (w : World) : Calls Try.prog 65 #[] w fun e w' => ∃ g g2, e = .returned (.agg #[.int .u64 65536, .slice (some ⟨g, 0, none⟩) 1 1]) ∧
    SgsAt w'.heap.size w' (some ⟨g, 0, none⟩) [⟨65536, 5, some ⟨g2, 0, none⟩, 4, [115, 0, 0, 0], 4⟩] ∧ Below w.heap.size w w' := by
  go_enter Try.func65, Try.ntmps65
  go_wp2
  have h0 := obj_alloc (o2 := .cells #[.int .u64 65536, .int .i64 5, .slice (some ⟨w.heap.size + 1, 0, none⟩) 4 4, .int .u64 4] 73) (obj_alloc (o2 := .cells #[.int .u8 115, .int .u8 0, .int .u8 0, .int .u8 0] 5) (two_one w (.int .u64 65536) (.slice (some ⟨w.heap.size + 1 + 1, 0, none⟩) 1 1)))
  have hB : Below w.heap.size w (((w.alloc (.cells #[.int .u64 65536, .slice (some ⟨w.heap.size + 1 + 1, 0, none⟩) 1 1] 38)).alloc (.cells #[.int .u8 115, .int .u8 0, .int .u8 0, .int .u8 0] 5)).alloc (.cells #[.int .u64 65536, .int .i64 5, .slice (some ⟨w.heap.size + 1, 0, none⟩) 4 4, .int .u64 4] 73)) := by
    refine (((Below.refl _ _).alloc (Nat.le_refl _) _).alloc ?_ _).alloc ?_ _
    · rw [World.size_alloc]; omega
    · rw [World.size_alloc, World.size_alloc]; omega
  have h1 := heap_alloc_new (w.alloc (.cells #[.int .u64 65536, .slice (some ⟨w.heap.size + 1 + 1, 0, none⟩) 1 1] 38)) (.cells #[.int .u8 115, .int .u8 0, .int .u8 0, .int .u8 0] 5)
  rw [World.size_alloc] at h1
  have h1' := obj_alloc (o2 := .cells #[.int .u64 65536, .int .i64 5, .slice (some ⟨w.heap.size + 1, 0, none⟩) 4 4, .int .u64 4] 73) h1
  have h2 := heap_alloc_new ((w.alloc (.cells #[.int .u64 65536, .slice (some ⟨w.heap.size + 1 + 1, 0, none⟩) 1 1] 38)).alloc (.cells #[.int .u8 115, .int .u8 0, .int .u8 0, .int .u8 0] 5)) (.cells #[.int .u64 65536, .int .i64 5, .slice (some ⟨w.heap.size + 1, 0, none⟩) 4 4, .int .u64 4] 73)
  rw [World.size_alloc, World.size_alloc] at h2
  obtain ⟨W, hW⟩ : ∃ W : World, W = (((w.alloc (.cells #[.int .u64 65536, .slice (some ⟨w.heap.size + 1 + 1, 0, none⟩) 1 1] 38)).alloc (.cells #[.int .u8 115, .int .u8 0, .int .u8 0, .int .u8 0] 5)).alloc (.cells #[.int .u64 65536, .int .i64 5, .slice (some ⟨w.heap.size + 1, 0, none⟩) 4 4, .int .u64 4] 73)) := ⟨_, rfl⟩
  rw [← hW] at h0 hB h1' h2 ⊢
  clear hW h1
  refine bodyPost_ret (v := .agg #[.int .u64 65536, .slice (some ⟨w.heap.size + 1 + 1, 0, none⟩) 1 1]) (by simp [results, Try.results65, go_sem, obj_cell h0 0, obj_cell h0 1]) rfl ?_
  refine ⟨_, w.heap.size + 1, rfl, ⟨fun i hi => ?_, ?_, ?_, by simp, by simp⟩, hB⟩
  · obtain rfl : i = 0 := by simp at hi; omega
    exact ⟨_, 0, rfl, lt_of_block h2, obj_cell h2 0, obj_cell h2 1, obj_cell h2 2, obj_cell h2 3⟩
  · intro s hs
    obtain rfl := List.mem_singleton.1 hs
    have hb : Buf W (w.heap.size + 1) [115, 0, 0, 0] := h1'
    exact hb.bs hb.lt
  · intro s hs
    obtain rfl := List.mem_singleton.1 hs
    simp

theorem eWrite_int (w : World) (A : Option Addr) (cap en n : Nat) (ss : List Sg) (z : Int) (hz : z = (en : Int)) (hn : n = ss.length) (hP : SgsAt w.heap.size w A ss) (hen : en < 18446744073709551616) :
    Calls Try.prog 25 #[.agg #[.int .u64 z, .slice A n cap]] w (WroteP w en (ss.map Sg.d)) := by
  subst hz hn
  exact eWrite_any w A cap en ss hP hen
theorem eRead_int (w : World) (A : Option Addr) (cap len : Nat) (l : List UInt8) (hr : Bs w.heap.size w A l) (hl : l.length = len) (hlen : len ≤ 140737488351232) (hcap : len ≤ cap) (l1 c1 : Nat) (h1 : l1 = len) (h2 : c1 = cap) :
    Calls Try.prog 21 #[.slice A l1 c1] w (ReadP w l) := by
  subst h1 h2
  exact eRead_any w A _ _ l hr hl hlen hcap

set_option maxHeartbeats 4000000 in
theorem speaks4_true (w : World) : Calls Try.prog 24 #[] w fun e w' => e = .returned (.bool true) ∧ Below w.heap.size w w' := by
  go_enter Try.func24, Try.ntmps24
  go_wp2_with fail
  refine Calls.mono (image4_any _) ?_
  rintro e w1 ⟨g, g2, rfl, hS, hB1⟩
  go_wp2_with fail
  refine Calls.mono (eWrite_int _ _ 1 65536 1 _ 65536 (by simp) rfl hS (by decide)) ?_
  intro e w2 hW
  have hW' : WroteP w1 65536 imgS e w2 := hW
  clear hW
  rcases hW' with ⟨-, g3, n, rfl, hb, hg3, hn, -, hB2⟩ | ⟨hc, -, -⟩
  · have hn0 : n = 4100 := hn.trans imgS_len
    have HN := Lib.hid hn0
    clear hn hn0
    have hlt : 4096 < (fileB 65536 imgS).length := by rw [imgS_len]; decide
    have c1 := hb.cell 4096 hlt
    rw [imgS_at hlt] at c1
    have c0 := hb.cell 0 (by omega)
    have f0 := hb.frozen 0
    have hbs : Buf (w2.setCell ⟨g3, 0, none⟩ (.int .u8 0)) g3 ((fileB 65536 imgS).set 0 0) := hb.set 0 0
    have hlen : ((fileB 65536 imgS).set 0 0).length = 4100 := by rw [List.length_set]; exact imgS_len
    have hBs : Bs (w2.setCell ⟨g3, 0, none⟩ (.int .u8 0)).heap.size (w2.setCell ⟨g3, 0, none⟩ (.int .u8 0)) (some ⟨g3, 0, none⟩) ((fileB 65536 imgS).set 0 0) := hbs.bs hbs.lt
    have hBw : Below w.heap.size w (w2.setCell ⟨g3, 0, none⟩ (.int .u8 0)) := (hB1.trans (hB2.mono hB1.size)).setCell (p := ⟨g3, 0, none⟩) (Nat.le_trans hB1.size hg3) _
    clear hbs hb
    have hne : ((n : Int) != 4100) = false := by rw [HN.out]; rfl
    have hi1 : (4096 : Int) < (n : Int) := by rw [HN.out]; decide
    have hi0 : (0 : Int) < (n : Int) := by rw [HN.out]; decide
    have hi2 : 0 < n := by rw [HN.out]; decide
    have hi3 : 4096 < n := by rw [HN.out]; decide
    go_wp2_with fail
    refine Calls.mono (eRead_any _ (some ⟨g3, 0, none⟩) n n ((fileB 65536 imgS).set 0 0) hBs (hlen.trans HN.out.symm) (by rw [HN.out]; decide) (Nat.le_refl _)) ?_
    intro e w3 hR
    rcases hR with ⟨a, hb, rfl, hB3⟩ | ⟨en, v, gs, hb, -, -, -, -⟩
    · rw [imgS_zero] at hb
      cases hb
      go_wp2
      go_ret
      exact ⟨rfl, (hBw.trans (hB3.mono hBw.size)).alloc (Nat.le_trans hBw.size hB3.size) _⟩
    · rw [imgS_zero] at hb
      cases hb
  · rw [imgS_ok] at hc
    exact absurd hc (by decide)
end Go.Proofs
