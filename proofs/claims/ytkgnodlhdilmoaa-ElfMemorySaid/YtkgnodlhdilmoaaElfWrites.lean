/- patinalaw04.ElfWrites: the walk. -/
import Derived.Test.YtkgnodlhdilmoaaElfL
import Derived.Deep.RegionHeld3
namespace Go.Pat
open Go Go.RowKit
def wroteQ (en : Nat) (ss : List Sgd) : List UInt8 × Nat := if checkE en ss = 0 then (fileB en ss, 0) else ([], 40)
end Go.Pat
namespace Go.Proofs
open Go Go.RowKit Go.Pat

theorem WroteP.open {w w' : World} {en : Nat} {ss : List Sgd} {e : Ending} (h : WroteP w en ss e w') : ∃ (n c er : Nat) (A : Option Addr) (l : List UInt8), wroteQ en ss = (l, er) ∧
    e = .returned (.tuple #[.slice A n c, .int .i64 er]) ∧ Bs w'.heap.size w' A l ∧ l.length = n ∧ Below w.heap.size w w' := by
  rcases h with ⟨hc, g, n, rfl, hbuf, hg, hn, hm, hB⟩ | ⟨hc, rfl, hB⟩
  · exact ⟨n, n, 0, _, _, by unfold wroteQ; rw [if_pos hc], rfl, hbuf.bs hbuf.lt, hn.symm, hB⟩
  · exact ⟨0, 0, 40, none, [], by unfold wroteQ; rw [if_neg (by rw [hc]; decide)], rfl, fun i hi => absurd hi (by simp [bcells]), rfl, hB⟩

section
variable (w : World) (A : Option Addr) (cap en n : Nat) (ss : List Sg) (hP : SgsAt w.heap.size w A ss) (hn : ss.length = n) (hen : en < 18446744073709551616)
include hP hn hen
theorem rWrite4_int : Calls Try.prog 28 #[.agg #[.int .u64 en, .slice A n cap]] w (WroteP w en (ss.map Sg.d)) := by
  subst hn; exact rWrite4_any w A cap en ss hP hen
theorem rCheck4_int : Calls Try.prog 31 #[.agg #[.int .u64 en, .slice A n cap]] w fun e w' => e = .returned (.int .i64 (checkE en (ss.map Sg.d))) ∧ Below w.heap.size w w' := by
  subst hn; exact rCheck4_any w A cap en ss hP hen
theorem eSize_int : Calls Try.prog 29 #[.agg #[.int .u64 en, .slice A n cap]] w fun e w' => e = .returned (.tuple #[.int .i64 (sizeE en (ss.map Sg.d) : Nat), .int .i64 (checkE en (ss.map Sg.d))]) ∧ Below w.heap.size w w' := by
  subst hn; exact eSize_any w A cap en ss hP hen
theorem rSize4_int : Calls Try.prog 30 #[.agg #[.int .u64 en, .slice A n cap]] w fun e w' => e = .returned (.tuple #[.int .i64 (sizeE en (ss.map Sg.d) : Nat), .int .i64 (checkE en (ss.map Sg.d))]) ∧ Below w.heap.size w w' := by
  subst hn; exact rSize4_any w A cap en ss hP hen
end

set_option maxRecDepth 20000 in
set_option maxHeartbeats 8000000 in
theorem ElfWrites_any (w : World) (A : Option Addr) (cap en n : Nat) (ss : List Sg) (hP : SgsAt w.heap.size w A ss) (hn : ss.length = n) (hen : en < 18446744073709551616) :
    Calls Try.prog 8 #[.agg #[.int .u64 en, .slice A n cap]] w fun e w' => e = .returned (.bool true) ∧ Below w.heap.size w w' := by
  have hb0 : Below w.heap.size w (w.alloc (.cells #[.int .u64 en, .slice A n cap] 38)) := (Below.refl _ _).alloc (Nat.le_refl _) _
  have HN := Lib.hid hn
  clear hn
  have hbk : ∀ w', Below w.heap.size w w' → SgsAt w'.heap.size w' A ss := fun w' h => (hP.below h).mono h.size
  have HK := Lib.hid hbk
  clear hbk
  go_enter Try.func8, Try.ntmps8
  go_wp2_with fail
  refine Calls.mono (eWrite_int _ A cap en n ss _ rfl HN.out.symm (HK.out _ hb0) hen) ?_
  intro e w1 hW
  obtain ⟨n1, c1, er1, A1, l1, hq1, rfl, hbs1, hl1, hB1⟩ := WroteP.open hW
  clear hW
  rw [World.size_alloc] at hB1
  have hi1 := box_one w _ _ hB1
  have hBa : Below w.heap.size w w1 := hb0.trans (hB1.mono (Nat.le_succ _))
  have j10 := obj_cell hi1 0
  have j11 := obj_cell hi1 1
  go_wp2_with fail
  refine Calls.mono (rWrite4_int w1 A cap en n ss (HK.out _ hBa) HN.out hen) ?_
  intro e w2 hW
  obtain ⟨n2, c2, er2, A2, l2, hq2, rfl, hbs2, hl2, hB2⟩ := WroteP.open hW
  clear hW
  have hq := hq1.symm.trans hq2
  simp only [Prod.mk.injEq] at hq
  obtain ⟨rfl, rfl⟩ := hq
  clear hq1 hq2
  have hi2 := (hB2.block _ (lt_of_block hi1)).trans hi1
  have hBb : Below w.heap.size w w2 := hBa.trans (hB2.mono hBa.size)
  have j20 := obj_cell hi2 0
  have j21 := obj_cell hi2 1
  go_wp2_with fail
  refine Calls.mono (eSize_int w2 A cap en n ss (HK.out _ hBb) HN.out hen) ?_
  rintro e w3 ⟨rfl, hB3⟩
  have hi3 := (hB3.block _ (lt_of_block hi2)).trans hi2
  have hBc : Below w.heap.size w w3 := hBb.trans (hB3.mono hBb.size)
  have j30 := obj_cell hi3 0
  have j31 := obj_cell hi3 1
  go_wp2_with fail
  refine Calls.mono (rSize4_int w3 A cap en n ss (HK.out _ hBc) HN.out hen) ?_
  rintro e w4 ⟨rfl, hB4⟩
  have hi4 := (hB4.block _ (lt_of_block hi3)).trans hi3
  have hBd : Below w.heap.size w w4 := hBc.trans (hB4.mono hBc.size)
  have hbl1 : Bs w4.heap.size w4 A1 l1 := ((hbs1.below (hB2.trans ((hB3.mono hB2.size).trans (hB4.mono (Nat.le_trans hB2.size hB3.size)))))).more (Nat.le_trans hB2.size (Nat.le_trans hB3.size hB4.size))
  have hbl2 : Bs w4.heap.size w4 A2 l1 := (hbs2.below (hB3.trans (hB4.mono hB3.size))).more (Nat.le_trans hB3.size hB4.size)
  have c40 := obj_cell hi4 0
  have c41 := obj_cell hi4 1
  have hlt4 := lt_of_block hi4
  obtain ⟨sz, hsz⟩ : ∃ sz, sz = sizeE en (ss.map Sg.d) := ⟨_, rfl⟩
  obtain ⟨ce, hce⟩ : ∃ ce, ce = checkE en (ss.map Sg.d) := ⟨_, rfl⟩
  rw [← hsz, ← hce]
  have HC := Lib.hid hce
  clear hsz hce j10 j11 j20 j21 j30 j31 hi1 hi2 hi3 hB1 hB2 hB3 hB4 hBa hBb hBc hbs1 hbs2 hb0
  go_wp2_with fail
  have hBd' : Below w.heap.size w w4.drew := hBd.drew
  have t1 : (ce == ce) = true := by simp
  have t2 : (l1 == l1) = true := by simp
  go_region_held3 (fun w' => w'.cell? ⟨w.heap.size, 0, none⟩ = some (.int .u64 (en : Nat)) ∧ w'.cell? ⟨w.heap.size, 1, none⟩ = some (.slice A n cap))
    (first | exact ⟨c40, c41⟩ | exact ⟨a0, a1⟩ | exact ⟨b0, b1⟩ | exact ⟨d0, d1⟩)
    (first
      | (go_at_call 27
         refine Calls.mono (eCheck_int w4.drew A cap en n ss (HK.out _ hBd') HN.out hen) ?_
         rintro e wa ⟨rfl, hCa⟩
         rw [← HC.out]
         have hEa := hBd'.trans (hCa.mono hBd'.size)
         have a0 := (hCa.cell (p := ⟨w.heap.size, 0, none⟩) hlt4).trans c40
         have a1 := (hCa.cell (p := ⟨w.heap.size, 1, none⟩) hlt4).trans c41)
      | (go_at_call 31
         refine Calls.mono (rCheck4_int wa A cap en n ss (HK.out _ hEa) HN.out hen) ?_
         rintro e wb ⟨rfl, hCb⟩
         rw [← HC.out]
         have hEb := hEa.trans (hCb.mono hEa.size)
         have hCab : Below w4.heap.size w4 wb := (Below.refl w4.heap.size w4).drew.trans (hCa.trans (hCb.mono hCa.size))
         have b0 := (hCb.cell (p := ⟨w.heap.size, 0, none⟩) (Nat.lt_of_lt_of_le hlt4 hCa.size)).trans a0
         have b1 := (hCb.cell (p := ⟨w.heap.size, 1, none⟩) (Nat.lt_of_lt_of_le hlt4 hCa.size)).trans a1)
      | (go_at_call 26
         refine Calls.mono (pBytes_any wb A1 A2 n1 n2 c1 c2 _ _ l1 l1 (hbl1.below hCab) (hbl2.below hCab) hl1 hl2) ?_
         rintro e wc ⟨rfl, rfl⟩
         rw [t2])
      | (go_at_call 24
         refine Calls.mono (speaks4_true wb) ?_
         rintro e wd ⟨rfl, hCd⟩
         have hEd := hEb.trans (hCd.mono hEb.size)
         have d0 := (hCd.cell (p := ⟨w.heap.size, 0, none⟩) (Nat.lt_of_lt_of_le hlt4 hCab.size)).trans b0
         have d1 := (hCd.cell (p := ⟨w.heap.size, 1, none⟩) (Nat.lt_of_lt_of_le hlt4 hCab.size)).trans b1))
  go_wp2
  go_ret
  exact ⟨rfl, hEd⟩
end Go.Proofs
