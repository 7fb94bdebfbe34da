/- patinalaw04.ElfLoads: the walk. -/
import Derived.Test.YtkgnodlhdilmoaaLoadR
import Derived.Test.YtkgnodlhdilmoaaLoadE
namespace Go.Pat
open Go Go.RowKit
def loadQ (en : Nat) (ss : List Sgd) : Nat × Nat × List Pgd := if checkE en ss = 0 then (en, 0, loadT ss ss.length) else (0, 40, [])
end Go.Pat
namespace Go.Proofs
open Go Go.RowKit Go.Pat

theorem loadE_open {w w' : World} {en : Nat} {ss : List Sgd} {e : Ending} (h : LoadE w en ss e w') : ∃ (en2 er n c : Nat) (A : Option Addr) (ps : List PgIn), loadQ en ss = (en2, er, ps.map PgIn.pg) ∧
    e = .returned (.tuple #[.agg (cpuA en2), .slice A n c, .int .i64 er]) ∧ PgsAt w'.heap.size w' A ps ∧ ps.length = n ∧ n ≤ 4096 ∧ Below w.heap.size w w' := by
  rcases h with ⟨hc, A, c, ps, rfl, hown, hps, hB⟩ | ⟨hc, rfl, hB⟩
  · have hl : ps.length ≤ 4096 := by
      have h1 := (load_pages hc).2.2
      rw [← hps, List.length_map] at h1
      exact h1
    obtain ⟨A2, c2, e, hP⟩ := hown.pgs (by omega)
    simp only [Value.slice.injEq] at e
    obtain ⟨rfl, -, rfl⟩ := e
    exact ⟨en, 0, ps.length, c, A, ps, by unfold loadQ; rw [if_pos hc, hps], rfl, hP, rfl, hl, hB⟩
  · exact ⟨0, 40, 0, 0, none, [], by unfold loadQ; rw [if_neg (by rw [hc]; decide)]; rfl, rfl, ⟨fun i hi => absurd hi (by simp), by simp, by simp, by simp⟩, rfl, by omega, hB⟩
theorem load_int (w : World) (A : Option Addr) (cap en n : Nat) (ss : List Sg) (hP : SgsAt w.heap.size w A ss) (hn : ss.length = n) (hen : en < 18446744073709551616) :
    Calls Try.prog 32 #[.agg #[.int .u64 en, .slice A n cap]] w (LoadE w en (ss.map Sg.d)) := eLoad_any w A cap en n ss hP hn hen
theorem cpu_range (W : World) (b : Nat) (cs : Array Value) (hb : W.heap[b]? = some (.cells cs 60 (0, 0))) : W.rangeAt b 0 cs.toList := fun j v hv => by
  rw [Nat.zero_add, cell_of_row _ _ j cs _ (0, 0) hb]; simpa using hv
theorem pCpu_A (w : World) (en : Nat) : Calls Try.prog 36 #[.agg (cpuA en), .agg (cpuA en)] w fun e w' => e = .returned (.bool true) ∧ Below w.heap.size w w' := pCpu_same w en

set_option maxRecDepth 20000 in
set_option maxHeartbeats 8000000 in
theorem ElfLoads_any (w : World) (A : Option Addr) (cap en n : Nat) (ss : List Sg) (hP : SgsAt w.heap.size w A ss) (hn : ss.length = n) (hen : en < 18446744073709551616) (at_ : Nat) (hat : at_ < 18446744073709551616) :
    Calls Try.prog 9 #[.agg #[.int .u64 en, .slice A n cap], .int .u64 at_] w fun e w' => e = .returned (.bool true) ∧ Below w.heap.size w w' := by
  have hb0 : Below w.heap.size w (w.alloc (.cells #[.int .u64 en, .slice A n cap] 38)) := (Below.refl _ _).alloc (Nat.le_refl _) _
  have HN := Lib.hid hn
  clear hn
  have hbk : ∀ w', Below w.heap.size w w' → SgsAt w'.heap.size w' A ss := fun w' h => (hP.below h).mono h.size
  have HK := Lib.hid hbk
  clear hbk
  go_enter Try.func9, Try.ntmps9
  go_wp2_with fail
  refine Calls.mono (eLoad_any _ A cap en n ss (HK.out _ hb0) HN.out hen) ?_
  intro e w1 hL
  obtain ⟨en1, er1, n1, c1, A1, ps1, hq1, rfl, hp1, hn1, hm1, hB1⟩ := loadE_open hL
  clear hL
  rw [World.size_alloc] at hB1
  have hi1 := box_one w _ _ hB1
  have hBa : Below w.heap.size w w1 := hb0.trans (hB1.mono (Nat.le_succ _))
  go_wp2_with (refine wpList_store_row (o := ⟨none, Op.store 60 (.tmp 5) (.tmp 18), _, _, _, _⟩) rfl 60 (.tmp 5) (.tmp 18) rfl w1.heap.size (cpuA en1) rfl rfl 60 _ (heap_alloc_new w1 _) Try_sizeCpu rfl (cpu_one en1) ?_
               generalize hW2 : World.setRow _ _ _ = W2
               have hcp2 : W2.heap[w1.heap.size]? = some (.cells (cpuA en1) 60 (0, 0)) := by rw [← hW2]; exact setRow_heap _ _ _ _ _ _ (heap_alloc_new w1 _)
               have hBw2 : Below w1.heap.size w1 W2 := by rw [← hW2]; exact below_setRow ((Below.refl _ _).alloc (Nat.le_refl _) _) (Nat.le_refl _) _
               clear hW2
               have hi2' := (hBw2.block _ (lt_of_block hi1)).trans hi1
               have j02 := obj_cell hi2' 0
               have j12 := obj_cell hi2' 1)
  have hBb : Below w.heap.size w W2 := hBa.trans (hBw2.mono hBa.size)
  refine Calls.mono (rLoad4_any W2 A cap en n ss (HK.out _ hBb) HN.out hen) ?_
  intro e w3 hL
  obtain ⟨en3, er3, n3, c3, A3, ps3, hq3, rfl, hp3, hn3, hm3, hB3⟩ := loadE_open hL
  clear hL
  have hq := hq1.symm.trans hq3
  simp only [Prod.mk.injEq] at hq
  obtain ⟨rfl, rfl, hpp⟩ := hq
  have hnn : n1 = n3 := by rw [← hn1, ← hn3, ← List.length_map (f := PgIn.pg), hpp, List.length_map]
  subst hnn
  clear hq1 hq3 j02 j12
  have hi3 := (hB3.block _ (lt_of_block hi2')).trans hi2'
  have hcp3 := (hB3.block _ (lt_of_block hcp2)).trans hcp2
  have hBc : Below w.heap.size w w3 := hBb.trans (hB3.mono hBb.size)
  go_wp2_with (refine wpList_store_row (o := ⟨none, Op.store 60 (.tmp 8) (.tmp 24), _, _, _, _⟩) rfl 60 (.tmp 8) (.tmp 24) rfl w3.heap.size (cpuA en1) rfl rfl 60 _ (heap_alloc_new w3 _) Try_sizeCpu rfl (cpu_one en1) ?_
               generalize hW4 : World.setRow _ _ _ = W4
               have hcp4 : W4.heap[w3.heap.size]? = some (.cells (cpuA en1) 60 (0, 0)) := by rw [← hW4]; exact setRow_heap _ _ _ _ _ _ (heap_alloc_new w3 _)
               have hBw4 : Below w3.heap.size w3 W4 := by rw [← hW4]; exact below_setRow ((Below.refl _ _).alloc (Nat.le_refl _) _) (Nat.le_refl _) _
               clear hW4
               have hi4' := (hBw4.block _ (lt_of_block hi3)).trans hi3
               have j04 := obj_cell hi4' 0
               have j14 := obj_cell hi4' 1)
  have hBd : Below w.heap.size w W4 := hBc.trans (hBw4.mono hBc.size)
  have hcp4' := (hBw4.block _ (lt_of_block hcp3)).trans hcp3
  refine Calls.mono (eWhere_any W4 A cap en n at_ ss (HK.out _ hBd) HN.out hen hat) ?_
  rintro e w5 ⟨rfl, hB5⟩
  obtain ⟨kk, hkk⟩ : ∃ kk, kk = (whereR en (ss.map Sg.d) at_).1 := ⟨_, rfl⟩
  obtain ⟨ff, hff⟩ : ∃ ff, ff = (whereR en (ss.map Sg.d) at_).2 := ⟨_, rfl⟩
  rw [← hkk, ← hff]
  have HF := Lib.hid (And.intro hkk hff)
  clear hkk hff j04 j14
  have hi5 := (hB5.block _ (lt_of_block hi4')).trans hi4'
  have hc5 := (hB5.block _ (lt_of_block hcp4')).trans hcp4'
  have hd5 := (hB5.block _ (lt_of_block hcp4)).trans hcp4
  have hBe : Below w.heap.size w w5 := hBd.trans (hB5.mono hBd.size)
  have j05 := obj_cell hi5 0
  have j15 := obj_cell hi5 1
  go_wp2_with fail
  refine Calls.mono (rWhere4_any w5 A cap en n at_ ss (HK.out _ hBe) HN.out hen hat) ?_
  rintro e w6 ⟨rfl, hB6⟩
  rw [← HF.out.1, ← HF.out.2]
  have hc6 := (hB6.block _ (lt_of_block hc5)).trans hc5
  have hd6 := (hB6.block _ (lt_of_block hd5)).trans hd5
  have hBf : Below w.heap.size w w6 := hBe.trans (hB6.mono hBe.size)
  have hb46 : Below w3.heap.size w3 w6 := hBw4.trans ((hB5.mono hBw4.size).trans (hB6.mono (Nat.le_trans hBw4.size hB5.size)))
  have hb16 : Below w1.heap.size w1 w6 := hBw2.trans ((hB3.mono hBw2.size).trans (hb46.mono (Nat.le_trans hBw2.size hB3.size)))
  have hp16 := (hp1.below hb16).mono hb16.size
  have hp36 := (hp3.below hb46).mono hb46.size
  have HPP := Lib.hid hpp
  clear hpp j05 j15
  have hr1 := cpu_range w6 w1.heap.size (cpuA en1) hc6
  have hr3 := cpu_range w6 w3.heap.size (cpuA en1) hd6
  have HR := Lib.hid (And.intro hr1 hr3)
  clear hr1 hr3
  go_wp2_with (first
    | refine wpList_load_want (op := ⟨some 39, _, _, _, _, _⟩) rfl 60 (.tmp 5) rfl w1.heap.size 0 rfl (cpuA en1).toList _ HR.out.1 Try.underlying60 rfl (by rw [Array.length_toList]; exact Try_sizeCpu) ?_
    | refine wpList_load_want (op := ⟨some 40, _, _, _, _, _⟩) rfl 60 (.tmp 8) rfl w3.heap.size 0 rfl (cpuA en1).toList _ HR.out.2 Try.underlying60 rfl (by rw [Array.length_toList]; exact Try_sizeCpu) ?_)
  refine Calls.mono (pCpu_A w6 en1) ?_
  rintro e w7 ⟨rfl, hB7⟩
  go_wp2_with fail
  refine Calls.mono (pPages_same w7 A1 A3 n1 c1 c3 ps1 ps3 ((hp16.below hB7).mono hB7.size) ((hp36.below hB7).mono hB7.size) hn1 hn3 HPP.out) ?_
  rintro e w8 ⟨rfl, hB8⟩
  have hBg : Below w.heap.size w w8 := hBf.trans ((hB7.trans (hB8.mono hB7.size)).mono hBf.size)
  go_wp2_with fail
  refine Calls.mono (speaks4_true _) ?_
  rintro e w9 ⟨rfl, hB9⟩
  go_wp2
  go_ret
  exact ⟨rfl, hBg.trans (hB9.mono hBg.size)⟩
end Go.Proofs
