/- patinalaw04.ElfReads, ElfBack, ElfStrict: the walks. -/
import Derived.Test.YtkgnodlhdilmoaaSame
namespace Go.Pat
open Go Go.RowKit
def readQ : ReadR → Nat × List Sgd × Nat × Nat
  | .bad a => (0, [], 40, a)
  | .good en ss => (en, ss, 0, 0)
end Go.Pat
namespace Go.Proofs
open Go Go.RowKit Go.Pat

theorem ReadP.open {w w' : World} {l : List UInt8} {e : Ending} (h : ReadP w l e w') : ∃ (en er at_ n c : Nat) (A : Option Addr) (gs : List Sg), readQ (readE l) = (en, gs.map Sg.d, er, at_) ∧
    e = .returned (.tuple #[.agg #[.int .u64 en, .slice A n c], .int .i64 er, .int .i64 at_]) ∧ SgsAt w'.heap.size w' A gs ∧ gs.length = n ∧ Below w.heap.size w w' := by
  rcases h with ⟨a, hR, rfl, hB⟩ | ⟨en, v, gs, hR, rfl, hown, h8, hB⟩
  · exact ⟨0, 40, a, 0, 0, none, [], by rw [hR]; rfl, rfl, ⟨fun i hi => absurd hi (by simp), by simp, by simp, by simp, by simp⟩, rfl, hB⟩
  · obtain ⟨A, c, rfl, hS⟩ := hown.sgs (by omega)
    exact ⟨en, 0, 0, gs.length, c, A, gs, by rw [hR]; rfl, rfl, hS, rfl, hB⟩

set_option maxHeartbeats 4000000 in
theorem ElfReads_any (w : World) (A : Option Addr) (cap len : Nat) (l : List UInt8) (hr : Bs w.heap.size w A l) (hl : l.length = len) (hlen : len ≤ 140737488351232) (hcap : len ≤ cap) :
    Calls Try.prog 4 #[.slice A len cap] w fun e w' => e = .returned (.bool true) ∧ Below w.heap.size w w' := by
  go_enter Try.func4, Try.ntmps4
  go_wp2_with fail
  refine Calls.mono (eRead_any w A cap len l hr hl hlen hcap) ?_
  intro e w1 hR
  obtain ⟨en, er, at_, n, c, A1, gs, hq, rfl, hS1, hn, hB1⟩ := hR.open
  clear hR
  have hi1 := two_one w1 (.int .u64 en) (.slice A1 n c)
  have hb1 : Below w1.heap.size w1 (w1.alloc (.cells #[.int .u64 en, .slice A1 n c] 38)) := (Below.refl _ _).alloc (Nat.le_refl _) _
  have hBa := hB1.trans (hb1.mono hB1.size)
  go_wp2_with fail
  refine Calls.mono (rRead4_any _ A cap len l ((hr.below hBa).more hBa.size) hl hlen hcap) ?_
  intro e w2 hR
  obtain ⟨en', er', at', n', c', A2, gs', hq', rfl, hS2, hn', hB2⟩ := hR.open
  clear hR
  have hq2 := hq.symm.trans hq'
  simp only [Prod.mk.injEq] at hq2
  obtain ⟨rfl, hm, rfl, rfl⟩ := hq2
  have hi1' := (hB2.block _ (by rw [World.size_alloc]; omega)).trans hi1
  have hi2 := two_one w2 (.int .u64 en) (.slice A2 n' c')
  have hi1'' := obj_alloc (o2 := .cells #[.int .u64 en, .slice A2 n' c'] 38) hi1'
  have hb2 : Below w2.heap.size w2 (w2.alloc (.cells #[.int .u64 en, .slice A2 n' c'] 38)) := (Below.refl _ _).alloc (Nat.le_refl _) _
  have hb12 : Below w1.heap.size w1 (w2.alloc (.cells #[.int .u64 en, .slice A2 n' c'] 38)) := (hb1.trans (hB2.mono hb1.size)).trans (hb2.mono (Nat.le_trans hb1.size hB2.size))
  have j0 := obj_cell hi1'' 0
  have j1 := obj_cell hi1'' 1
  have HM := Lib.hid hm
  clear hm hq hq'
  go_wp2_with fail
  refine Calls.mono (same4_any _ A1 A2 c c' en en n n' gs gs' ((hS1.below hb12).mono hb12.size) ((hS2.below hb2).mono hb2.size) hn hn') ?_
  rintro e w3 ⟨rfl, hB3⟩
  have ht : decide (en = en ∧ gs.map Sg.d = gs'.map Sg.d) = true := decide_eq_true ⟨rfl, HM.out⟩
  rw [ht]
  have hB3w : Below w.heap.size w w3 := hB1.trans ((hb12.trans (hB3.mono hb12.size)).mono hB1.size)
  clear ht
  go_wp2_with fail
  refine Calls.mono (speaks4_true _) ?_
  rintro e w4 ⟨rfl, hB4⟩
  go_wp2
  go_ret
  exact ⟨rfl, hB3w.trans (hB4.mono hB3w.size)⟩

theorem eCheck_int (w : World) (A : Option Addr) (cap en n : Nat) (ss : List Sg) (hP : SgsAt w.heap.size w A ss) (hn : ss.length = n) (hen : en < 18446744073709551616) :
    Calls Try.prog 27 #[.agg #[.int .u64 en, .slice A n cap]] w fun e w' => e = .returned (.int .i64 (checkE en (ss.map Sg.d))) ∧ Below w.heap.size w w' := by
  subst hn
  exact eCheck_any w A cap en ss hP hen
theorem box_one (w : World) (x y : Value) {w1 : World} (hb : Below (w.heap.size + 1) (w.alloc (.cells #[x, y] 38)) w1) : w1.heap[w.heap.size]? = some (.cells #[x, y] 38 (0, 0)) :=
  (hb.block _ (Nat.lt_succ_self _)).trans (two_one w x y)

set_option maxHeartbeats 4000000 in
theorem ElfBack_any (w : World) (A : Option Addr) (cap en n : Nat) (ss : List Sg) (hP : SgsAt w.heap.size w A ss) (hn : ss.length = n) (hen : en < 18446744073709551616) :
    Calls Try.prog 5 #[.agg #[.int .u64 en, .slice A n cap]] w fun e w' => e = .returned (.bool true) ∧ Below w.heap.size w w' := by
  have hb0 : Below w.heap.size w (w.alloc (.cells #[.int .u64 en, .slice A n cap] 38)) := (Below.refl _ _).alloc (Nat.le_refl _) _
  have HN := Lib.hid hn
  clear hn
  go_enter Try.func5, Try.ntmps5
  go_wp2_with fail
  refine Calls.mono (eWrite_int _ A cap en n ss _ rfl HN.out.symm ((hP.below hb0).mono hb0.size) hen) ?_
  intro e w1 hW
  rcases hW with ⟨hc, g, fl, rfl, hbuf, hg, hfl, hflm, hB1⟩ | ⟨hc, rfl, hB1⟩
  · rw [World.size_alloc] at hB1 hg
    have hi := box_one w _ _ hB1
    have hBa := hb0.trans (hB1.mono (Nat.le_succ _))
    have HR := Lib.hid (read_file hen hc)
    have HF := Lib.hid (And.intro hc hfl)
    clear hc hfl
    go_wp2_with fail
    refine Calls.mono (eRead_any w1 _ fl fl (fileB en (ss.map Sg.d)) (hbuf.bs hbuf.lt) HF.out.2.symm hflm (Nat.le_refl _)) ?_
    intro e w2 hR
    obtain ⟨en', er', at', n', c', A2, gs', hq', rfl, hS2, hn', hB2⟩ := hR.open
    clear hR
    rw [HR.out] at hq'
    simp only [readQ, Prod.mk.injEq] at hq'
    obtain ⟨rfl, hm, rfl, rfl⟩ := hq'
    have hi' := obj_alloc (o2 := .cells #[.int .u64 en, .slice A2 n' c'] 38) ((hB2.block _ (lt_of_block hi)).trans hi)
    have hb2 : Below w2.heap.size w2 (w2.alloc (.cells #[.int .u64 en, .slice A2 n' c'] 38)) := (Below.refl _ _).alloc (Nat.le_refl _) _
    have hBb : Below w.heap.size w (w2.alloc (.cells #[.int .u64 en, .slice A2 n' c'] 38)) := (hBa.trans (hB2.mono hBa.size)).trans (hb2.mono (Nat.le_trans hBa.size hB2.size))
    have j0 := obj_cell hi' 0
    have j1 := obj_cell hi' 1
    have HM := Lib.hid hm
    clear hm
    go_wp2_with fail
    refine Calls.mono (same4_any _ A A2 cap c' en en n n' ss gs' ((hP.below hBb).mono hBb.size) ((hS2.below hb2).mono hb2.size) HN.out hn') ?_
    rintro e w3 ⟨rfl, hB3⟩
    have ht : decide (en = en ∧ ss.map Sg.d = gs'.map Sg.d) = true := decide_eq_true ⟨rfl, HM.out⟩
    rw [ht]
    have hB3w : Below w.heap.size w w3 := hBb.trans (hB3.mono hBb.size)
    clear ht
    go_wp2_with fail
    refine Calls.mono (speaks4_true _) ?_
    rintro e w4 ⟨rfl, hB4⟩
    go_wp2
    go_ret
    exact ⟨rfl, hB3w.trans (hB4.mono hB3w.size)⟩
  · have hBa := hb0.trans (hB1.mono hb0.size)
    have HC := Lib.hid hc
    clear hc
    go_wp2_with fail
    refine Calls.mono (speaks4_true _) ?_
    rintro e w4 ⟨rfl, hB4⟩
    go_wp2
    go_ret
    exact ⟨rfl, hBa.trans (hB4.mono hBa.size)⟩

theorem nil_sgs (B : Nat) (w : World) : SgsAt B w none [] := ⟨fun i hi => absurd hi (by simp), by simp, by simp, by simp, by simp⟩
theorem same4_nil (w : World) (A1 : Option Addr) (c1 e1 n1 : Nat) (s1 : List Sg) (h1 : SgsAt w.heap.size w A1 s1) (hn1 : s1.length = n1) :
    Calls Try.prog 23 #[.agg #[.int .u64 e1, .slice A1 n1 c1], .agg #[.int .u64 0, .slice none 0 0]] w fun e w' =>
      e = .returned (.bool (decide (e1 = 0 ∧ s1.map Sg.d = []))) ∧ Below w.heap.size w w' :=
  same4_any w A1 none c1 0 e1 0 n1 0 s1 [] h1 (nil_sgs _ _) hn1 rfl
set_option maxHeartbeats 4000000 in
theorem ElfStrict_any (w : World) (A : Option Addr) (cap len : Nat) (l : List UInt8) (hr : Bs w.heap.size w A l) (hl : l.length = len) (hlen : len ≤ 140737488351232) (hcap : len ≤ cap) :
    Calls Try.prog 6 #[.slice A len cap] w fun e w' => e = .returned (.bool true) ∧ Below w.heap.size w w' := by
  go_enter Try.func6, Try.ntmps6
  go_wp2_with fail
  refine Calls.mono (eRead_any w A cap len l hr hl hlen hcap) ?_
  intro e w1 hR
  obtain ⟨en, er, at_, n, c, A1, gs, hq, rfl, hS1, hn, hB1⟩ := hR.open
  clear hR
  have hi1 := two_one w1 (.int .u64 en) (.slice A1 n c)
  have hb1 : Below w1.heap.size w1 (w1.alloc (.cells #[.int .u64 en, .slice A1 n c] 38)) := (Below.refl _ _).alloc (Nat.le_refl _) _
  have hBa := hB1.trans (hb1.mono hB1.size)
  have HN := Lib.hid hn
  clear hn
  cases hR : readE l with
  | bad a =>
    rw [hR] at hq
    simp only [readQ, Prod.mk.injEq] at hq
    obtain ⟨rfl, hm, rfl, rfl⟩ := hq
    have HM := Lib.hid hm
    clear hm hR
    go_wp2_with fail
    refine Calls.mono (same4_nil _ A1 c 0 n gs ((hS1.below hb1).mono hb1.size) HN.out) ?_
    rintro e w3 ⟨rfl, hB3⟩
    have ht : decide ((0 : Nat) = 0 ∧ gs.map Sg.d = []) = true := decide_eq_true ⟨rfl, HM.out.symm⟩
    rw [ht]
    have hB3w : Below w.heap.size w w3 := hBa.trans (hB3.mono hBa.size)
    clear ht
    go_wp2_with fail
    refine Calls.mono (speaks4_true _) ?_
    rintro e w4 ⟨rfl, hB4⟩
    go_wp2
    go_ret
    exact ⟨rfl, hB3w.trans (hB4.mono hB3w.size)⟩
  | good en2 ss2 =>
    have hG := read_good hR
    rw [hR] at hq
    simp only [readQ, Prod.mk.injEq] at hq
    obtain ⟨rfl, rfl, rfl, rfl⟩ := hq
    have hen : en2 < 18446744073709551616 := by rw [hG.en]; exact Nat.lt_of_lt_of_le (num_lt l 24 8) (by decide)
    have HG := Lib.hid (And.intro hG.check hG.file)
    clear hG hR
    go_wp2_with fail
    refine Calls.mono (eWrite_int _ A1 c en2 n gs _ rfl HN.out.symm ((hS1.below hb1).mono hb1.size) hen) ?_
    intro e w2 hW
    rcases hW with ⟨hc, g, fl, rfl, hbuf, hg, hfl, hflm, hB2⟩ | ⟨hc, rfl, hB2⟩
    · have hB2w : Below w.heap.size w w2 := hBa.trans (hB2.mono hBa.size)
      have hi2 := (hB2.block _ (by rw [World.size_alloc]; omega)).trans hi1
      have j0 := obj_cell hi2 0
      have j1 := obj_cell hi2 1
      have HF := Lib.hid hfl
      clear hc hfl
      go_wp2_with fail
      refine Calls.mono (pBytes_any w2 A (some ⟨g, 0, none⟩) len fl cap fl _ _ l (fileB en2 (gs.map Sg.d)) (hr.below hB2w) (hbuf.bs hbuf.lt) hl HF.out.symm) ?_
      rintro e w' ⟨rfl, rfl⟩
      have ht : (l == fileB en2 (gs.map Sg.d)) = true := by rw [HG.out.2]; simp
      rw [ht]
      clear ht
      have hb12 := hb1.trans (hB2.mono hb1.size)
      go_wp2_with fail
      refine Calls.mono (eCheck_int _ A1 c en2 n gs ((hS1.below hb12).mono hb12.size) HN.out hen) ?_
      rintro e w3 ⟨rfl, hB3⟩
      rw [HG.out.1]
      have hB3w : Below w.heap.size w w3 := hB2w.trans (hB3.mono hB2w.size)
      go_wp2_with fail
      refine Calls.mono (speaks4_true _) ?_
      rintro e w4 ⟨rfl, hB4⟩
      go_wp2
      go_ret
      exact ⟨rfl, hB3w.trans (hB4.mono hB3w.size)⟩
    · rw [HG.out.1] at hc
      exact absurd hc (by decide)
end Go.Proofs
