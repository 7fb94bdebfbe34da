/- patinalaw03.small: a program that ends with 7. -/
import Derived.Test.YtemngapfnkokiaaDoorPage3
import Derived.Test.YtemngapfnkokiaaDoorStateM
namespace Go.Pat
open Go Go.RowKit
def c0 : Mc := ⟨4096, List.replicate 32 0, 0, false, 0, 0, [], 0⟩
def c9 : Mc := ⟨4108, [0, 0, 0, 0, 0, 0, 0, 0, 0, 0, 7, 0, 0, 0, 0, 0, 0, 93, 0, 0, 0, 0, 0, 0, 0, 0, 0, 0, 0, 0, 0, 0], 3, true, 7, 0, [], 0⟩
theorem small_run (b c : Nat) : runM 9 ⟨c0, [⟨4096, 5, b, c, cont 12⟩], []⟩ = (3, ⟨c9, [⟨4096, 5, b, c, cont 12⟩], []⟩) := by kernel_rfl
theorem c0_reg (i : Nat) : c0.reg i < 18446744073709551616 := by
  show (List.replicate 32 0).getD i 0 < _
  rw [List.getD_eq_getElem?_getD, List.getElem?_replicate]
  split <;> decide
theorem c0_right : rightB c0 0 = true := by decide
theorem small_from : fromE [⟨4096, 5, cont 12⟩] = 0 := by kernel_rfl
theorem fs_one {fs : List Fr} {a : Nat} {p : Int} {l : List UInt8} (h : fs.map Fr.pg = [⟨a, p, l⟩]) : ∃ b c, fs = [⟨a, p, b, c, l⟩] := by
  match fs, h with
  | [f], h =>
    obtain ⟨a1, p1, b1, c1, l1⟩ := f
    simp only [List.map_cons, List.map_nil, Fr.pg, List.cons.injEq, Pgd.mk.injEq, and_true] at h
    obtain ⟨rfl, rfl, rfl⟩ := h
    exact ⟨b1, c1, rfl⟩
end Go.Pat
namespace Go.Proofs
open Go Go.RowKit Go.Pat
theorem rvRows_below {w w' : World} (h : RvRows w) (hb : Below w.heap.size w w') : RvRows w' :=
  ⟨Nat.lt_of_lt_of_le h.1 hb.size, fun op ho j v hv => (World.cell?_of_block (hb.block _ h.1)).trans (h.2 op ho j v hv)⟩
theorem below_kept {B : Nat} {S : Nat → Prop} {w0 w w' : World} (hb : Below B w0 w) (hk : KeptBut S w w') (hs : ∀ k, S k → B ≤ k) (hB : B ≤ w.heap.size) : Below B w0 w' :=
  hb.trans ⟨hk.os, hk.tape, hk.output, hk.size, fun k h => hk.block k (Nat.lt_of_lt_of_le h hB) (fun hm => absurd (hs k hm) (by omega))⟩
theorem bs_nil {B : Nat} {w : World} {A : Option Addr} : Bs B w A [] := fun i hi => by rw [bcells_length] at hi; exact absurd hi (Nat.not_lt_zero _)
set_option maxRecDepth 20000 in
set_option maxHeartbeats 16000000 in
theorem small3_any (w : World) (hR : RvRows w) : Calls Tryd.prog 27 #[] w fun e w' => e = .returned (.bool true) ∧ Below w.heap.size w w' := by
  have halu : aluV 35 2 3 = 5 := by kernel_rfl
  have HA := Lib.hid halu
  have HR := Lib.hid hR
  clear halu hR
  go_enter Tryd.func27, Tryd.ntmps27
  go_wp2_with fail
  refine Calls.mono (page3_any _ _ 3 (heap_alloc_new w _)) ?_
  rintro e w1 ⟨b, k, rfl, hP, hB1⟩
  have hB01 : Below w.heap.size w w1 := ((Below.refl _ _).alloc (Nat.le_refl _) _).trans (hB1.mono (by rw [World.size_alloc]; omega))
  clear hB1
  go_wp2_with fail
  refine Calls.mono (New_any3 w1 c0 none (some ⟨b, 0, none⟩) none 0 1 0 [⟨4096, 5, some ⟨k, 0, none⟩, 4096, cont 12⟩] [] rfl c0_reg (by decide) bs_nil (by decide) hP bs_nil (by decide)) ?_
  rintro e w2 ⟨hB2, h⟩
  rcases h with ⟨h, -⟩ | ⟨-, h, -⟩ | ⟨-, -, m, p, mb, ov, iv, fs, rfl, hM, hfs, hmine, -⟩
  · exact absurd (h.symm.trans c0_right) (by decide)
  · exact absurd small_from h
  obtain ⟨fb, fc, rfl⟩ := fs_one hfs
  have hB02 : Below w.heap.size w w2 := hB01.trans (hB2.mono hB01.size)
  have hR2 := rvRows_below HR.out hB02
  have hsep : ¬ mine m [⟨4096, 5, fb, fc, cont 12⟩] ov 1 := fun h => by
    have h1 := hmine _ h
    have h2 := HR.out.1
    have h3 := hB01.size
    omega
  have HRun := Lib.hid (Run_any w2 m p mb ov iv _ 9 hM hR2 hsep (by omega) (by show 0 + 9 ≤ _; omega))
  have HB := Lib.hid (fun (w3 : World) (hK : KeptBut (mine m [⟨4096, 5, fb, fc, cont 12⟩] ov) w2 w3) => below_kept hB02 hK (fun k h => Nat.le_trans hB01.size (hmine k h)) hB02.size)
  clear hM hsep hR2 hfs hmine hP hB2 hB01 hB02
  go_wp2_with fail
  refine Calls.mono HRun.out ?_
  rintro e w3 ⟨rfl, ov', hM3, hK3, -, -⟩
  have hB3 := HB.out w3 hK3
  rw [small_run] at hM3
  rw [small_run]
  have HSt := Lib.hid (State_any w3 m p mb ov' iv _ hM3 (show (0 : Nat) ≤ 140737488355328 by omega))
  clear hM3 hK3 HB HRun
  go_wp2_with fail
  refine Calls.mono HSt.out ?_
  rintro e w4 ⟨ov2, rfl, hO4, hB4⟩
  have hB04 : Below w.heap.size w w4 := hB3.trans (hB4.mono hB3.size)
  obtain ⟨cs, hcs⟩ : ∃ cs, cs = (c9.cells ov2).toArray := ⟨_, rfl⟩
  have hone : cs.all (·.oneCell') = true := by rw [hcs]; exact cells_oneA hO4.one
  have hsz : cs.size = 39 := by rw [hcs]; rfl
  have hin : (Tryd.prog.info? 76).map (·.size) = some cs.size := by rw [hsz]; exact Tryd_sizeCpu2
  have hold : cpuZ.size = cs.size := by rw [hsz]; rfl
  obtain ⟨W, hW⟩ : ∃ W : World, W = w4.alloc (.cells cpuZ 76) := ⟨_, rfl⟩
  have hW0 : W.heap[w4.heap.size]? = some (.cells cpuZ 76 (0, 0)) := by rw [hW]; exact heap_alloc_new w4 _
  obtain ⟨W5, hW5⟩ : ∃ W5 : World, W5 = W.setRow w4.heap.size cs := ⟨_, rfl⟩
  have h5 : W5.heap[w4.heap.size]? = some (.cells cs 76 (0, 0)) := by rw [hW5]; exact setRow_heap W _ cpuZ _ _ _ hW0
  have hB5 : Below w.heap.size w W5 := by rw [hW5, hW]; exact below_setRow (hB04.alloc hB04.size _) hB04.size _
  have a33 : W5.cell? ⟨w4.heap.size, 33, none⟩ = some (.int .i64 3) := (obj_cell h5 33).trans (by rw [hcs]; rfl)
  have a34 : W5.cell? ⟨w4.heap.size, 34, none⟩ = some (.bool true) := (obj_cell h5 34).trans (by rw [hcs]; rfl)
  have a35 : W5.cell? ⟨w4.heap.size, 35, none⟩ = some (.int .i64 7) := (obj_cell h5 35).trans (by rw [hcs]; rfl)
  rw [← hcs]
  unfold cpuZ at hW
  have HW := Lib.hid hW
  have HW5 := Lib.hid hW5
  have HK := Lib.hid (And.intro hW0 (And.intro hin (And.intro hold hone)))
  clear hW hW5 hW0 hin hold hone hcs h5 hsz hO4
  go_wp2_with (first
    | (rw [← HW.out]; refine wpList_store_row (o := ⟨none, Op.store 76 (.tmp 4) (.tmp 23), _, _, _, _⟩) rfl 76 (.tmp 4) (.tmp 23) rfl w4.heap.size cs rfl rfl 76 _ HK.out.1 HK.out.2.1 HK.out.2.2.1 HK.out.2.2.2 ?_; rw [← HW5.out])
    | (go_at_call 24; refine (cAlu_in 35 2 3 (by decide) (by decide) (by decide) (by decide) _).mono ?_; rw [HA.out]; rintro e w' ⟨rfl, rfl⟩))
  go_ret
  exact ⟨rfl, hB5⟩
end Go.Proofs
