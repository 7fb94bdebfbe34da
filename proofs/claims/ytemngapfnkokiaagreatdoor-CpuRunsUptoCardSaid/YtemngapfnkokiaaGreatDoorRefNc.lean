/- The reference machine: New: right states, with a fault. -/
import Derived.Test.YtemngapfnkokiaaGreatDoorRefNk
namespace Go.Proofs
open Go Go.RowKit Go.Pat
set_option maxRecDepth 20000 in
set_option maxHeartbeats 64000000 in
theorem r3new_ill (w : World) (c : Mc) (OA PA IA : Option Addr) (oc pc ic : Nat) (ps : List PgIn) (inp : List UInt8) (hl : c.regs.length = 32) (hsm : ∀ i, c.reg i < 18446744073709551616) (hpc : c.pc < 18446744073709551616)
    (hO : Bs w.heap.size w OA c.out) (hol : c.out.length ≤ 140737488355328) (hP : PgsAt w.heap.size w PA ps) (hI : Bs w.heap.size w IA inp) (hil : inp.length ≤ 140737488355328) (hr : rightB c inp.length = true) (hf : c.fault ≠ 0) :
    Calls Tryz.prog 5 #[.agg (c.cells (.slice OA c.out.length oc)).toArray, .slice PA ps.length pc, .slice IA inp.length ic] w (RNewTo w c ps inp) := by
  obtain ⟨ov0, hov⟩ : ∃ ov0 : Value, ov0 = .slice OA c.out.length oc := ⟨_, rfl⟩
  rw [← hov]
  obtain ⟨cs, hcs⟩ : ∃ cs, cs = (c.cells ov0).toArray := ⟨_, rfl⟩
  obtain ⟨W, hW⟩ : ∃ W : World, W = w.alloc (.cells cs 27) := ⟨_, rfl⟩
  have hB : Below w.heap.size w W := by rw [hW]; exact (Below.refl _ _).alloc (Nat.le_refl _) _
  have h1 : W.heap[w.heap.size]? = some (.cells cs 27 (0, 0)) := by rw [hW]; exact heap_alloc_new w _
  have a1 : W.cell? ⟨w.heap.size, 1, none⟩ = some (.int .u64 ((c.reg 0 : Nat) : Int)) := (obj_cell h1 1).trans (by rw [hcs, List.getElem?_toArray]; exact cget_reg hl 0 (by omega))
  have a33 : W.cell? ⟨w.heap.size, 33, none⟩ = some (.int .i64 c.steps) := (obj_cell h1 33).trans (by rw [hcs, List.getElem?_toArray]; exact cget_tail hl 0 (by omega))
  have a35 : W.cell? ⟨w.heap.size, 35, none⟩ = some (.int .i64 c.code) := (obj_cell h1 35).trans (by rw [hcs, List.getElem?_toArray]; exact cget_tail hl 2 (by omega))
  have a36 : W.cell? ⟨w.heap.size, 36, none⟩ = some (.int .i64 c.fault) := (obj_cell h1 36).trans (by rw [hcs, List.getElem?_toArray]; exact cget_tail hl 3 (by omega))
  have a38 : W.cell? ⟨w.heap.size, 38, none⟩ = some (.int .i64 c.inn) := (obj_cell h1 38).trans (by rw [hcs, List.getElem?_toArray]; exact cget_tail hl 5 (by omega))
  have hr' := hr
  simp only [rightB, rightG, Bool.and_eq_true, Bool.or_eq_true, beq_iff_eq, decide_eq_true_eq] at hr'
  obtain ⟨g1, g2, g3, g4, g5, g6, g7⟩ := hr'
  have t1 : (((c.reg 0 : Nat) : Int) != 0) = false := by simp; omega
  have t2 : decide (c.steps < 0) = false := decide_eq_false (by omega)
  have t3 : decide (c.code < 0) = false := decide_eq_false (by omega)
  have t4 : decide (255 < c.code) = false := decide_eq_false (by omega)
  have t5 : decide (c.inn < 0) = false := decide_eq_false (by omega)
  have t6 : decide ((inp.length : Int) < c.inn) = false := decide_eq_false (by omega)
  have t7 : (c.fault != 0) = true := by simp [hf]
  have t8 : decide (c.fault < 30) = false := decide_eq_false (by omega)
  have t9 : decide (34 < c.fault) = false := decide_eq_false (by omega)
  clear g1 g2 g3 g4 g5 g6 g7 hf
  have hr0 : W.rangeAt w.heap.size 0 (c.cells ov0) := fun j v hv => (obj_cell h1 (0 + j)).trans (by rw [Nat.zero_add, hcs, List.getElem?_toArray]; exact hv)
  have hsz : (Tryz.prog.info? 27).map (·.size) = some (c.cells ov0).length := by rw [ccells_len hl]; exact Tryz_sizeCpu2
  rw [← hcs]
  have HC := Lib.hid (And.intro hcs (And.intro hsz (And.intro h1 hov)))
  have HW := Lib.hid hW
  have hbs : w.heap.size < W.heap.size := lt_of_block h1
  have HH := Lib.hid (And.intro hl (And.intro hsm (And.intro hpc (And.intro hO (And.intro hol (And.intro hP (And.intro hI (And.intro hil hr))))))))
  clear hW hov h1 hr0 hsz hl hsm hpc hO hP hI hr hcs hol hil
  go_enter Tryz.func5, Tryz.ntmps5
  go_upto_region 1 with fail
  rw [← HW.out]
  go_wp2_with fail
  refine Calls.mono (rWrong2_any _ PA pc ps.length ps ((HH.out.2.2.2.2.2.1.below hB).mono hB.size) rfl) ?_
  rintro e w1 ⟨rfl, hB1⟩
  have hB01 : Below w.heap.size w w1 := hB.trans (hB1.mono hB.size)
  by_cases h0 : fromE (ps.map PgIn.pg) = 0
  rotate_left
  · have t0 : ((fromE (ps.map PgIn.pg)) != 0) = true := by simpa using h0
    have hn : newE c ps inp.length = fromE (ps.map PgIn.pg) := by unfold newE; rw [HH.out.2.2.2.2.2.2.2.2]; rfl
    have HN := Lib.hid (And.intro hn h0)
    clear hn h0
    go_wp2
    go_ret2
    exact ⟨hB01, .inl ⟨by rw [HN.out.1]; exact HN.out.2, by rw [HN.out.1]; rfl⟩⟩
  rw [h0]
  have hk1 := (hB1.block _ hbs).trans HC.out.2.2.1
  have hr1 : w1.rangeAt w.heap.size 0 (c.cells ov0) := fun j v hv => (obj_cell hk1 (0 + j)).trans (by rw [Nat.zero_add, HC.out.1, List.getElem?_toArray]; exact hv)
  have c37b : w1.cell? ⟨w.heap.size, 37, none⟩ = some (.slice OA c.out.length oc) := (obj_cell hk1 37).trans (by rw [HC.out.1, List.getElem?_toArray, ← HC.out.2.2.2]; exact cget_tail HH.out.1 4 (by omega))
  obtain ⟨ms, hms⟩ : ∃ ms, ms = (c.cells ov0 ++ [Value.slice none 0 0, .slice none 0 0]).toArray := ⟨_, rfl⟩
  obtain ⟨W1, hW1⟩ : ∃ W1 : World, W1 = w1.alloc (.cells ms 42) := ⟨_, rfl⟩
  have hm1 : W1.heap[w1.heap.size]? = some (.cells (mcells c ov0 (.slice none 0 0) (.slice none 0 0)).toArray 42 (0, 0)) := by rw [hW1, mcells_app, ← hms]; exact heap_alloc_new w1 _
  have hB11 : Below w.heap.size w W1 := by rw [hW1]; exact hB01.alloc hB01.size _
  have hB1W : Below w1.heap.size w1 W1 := by rw [hW1]; exact (Below.refl _ _).alloc (Nat.le_refl _) _
  have hw1 : w.heap.size < w1.heap.size := Nat.lt_of_lt_of_le hbs hB1.size
  have c37 : W1.cell? ⟨w.heap.size, 37, none⟩ = some (.slice OA c.out.length oc) := (hB1W.cell (p := ⟨w.heap.size, 37, none⟩) hw1).trans c37b
  have m37 : W1.cell? ⟨w1.heap.size, 37, none⟩ = some (.slice OA c.out.length oc) := (obj_cell hm1 37).trans (by rw [List.getElem?_toArray, ← HC.out.2.2.2]; exact mget_tail HH.out.1 4)
  have hmw : w1.heap.size < W1.heap.size := lt_of_block hm1
  have HB := Lib.hid (show Tryz.prog.built 42 [(0, .agg (c.cells ov0).toArray)] = some ms by rw [hms]; exact built_mach3 _ (ccells_len HH.out.1))
  have HR1 := Lib.hid hr1
  have HW1 := Lib.hid hW1
  have HM1 := Lib.hid hm1
  have H0 := Lib.hid h0
  have HOB := Lib.hid (show Bs W1.drew.heap.size W1.drew OA c.out from ((HH.out.2.2.2.1.below hB11).below (Below.refl _ _).drew).mono hB11.size)
  clear hW1 hr1 hm1 hms hk1 c37b h0
  go_wp2_with (first
    | (refine wpList_load_want (op := ⟨some 64, _, _, _, _, _⟩) rfl 27 (.tmp 3) rfl w.heap.size 0 rfl (c.cells ov0) _ HR1.out Tryz.underlying27 rfl HC.out.2.1 ?_)
    | (refine wpList_build1 rfl 42 0 (.tmp 64) rfl _ rfl ms HB.out ?_))
  rw [← HW1.out]
  have hol := HH.out.2.2.2.2.1
  go_region_law (first
    | (refine step_appOut rfl (.tmp 73) (.tmp 75) 25 rfl Tryz_elU8 W1.drew.heap.size OA (by exact rfl) W1.drew.heap.size OA c.out.length oc (bcells c.out) (by exact rfl) (by rw [bcells_length, Nat.mul_one]) HOB.out (bcells_one _) (by simp only [maxLen]; omega) (by omega) (Nat.le_refl _) ?_
       intro o2 w2 ov h2 h3 h4 h5
       obtain ⟨A2, c2, rfl, -⟩ := OutIs.form (l := c.out) h2 h3
       have hm2 := (h4.block w1.heap.size hmw (fun e => by cases e)).trans HM1.out
       have k37 : w2.cell? ⟨w1.heap.size, 37, none⟩ = some ov0 := (obj_cell hm2 37).trans (by rw [List.getElem?_toArray]; exact mget_tail HH.out.1 4)
       have g37 := obj_frozen hm2 37))
  all_goals
    have hB2 : Below w.heap.size w w2 := hB11.drew.grown h4 hB11.size (fun k hk => by cases hk)
    have hov5 : ∀ g, ov.ownBlock = some g → W1.heap.size ≤ g ∧ g < w2.heap.size := fun g hg => h3.lt g hg
    have hs12 : W1.heap.size ≤ w2.heap.size := h4.size
    obtain ⟨W3, hW3⟩ : ∃ W3 : World, W3 = w2.setCell ⟨w1.heap.size, 37, none⟩ (.slice A2 c.out.length c2) := ⟨_, rfl⟩
    have hm3 : W3.heap[w1.heap.size]? = some (.cells (mcells c (.slice A2 c.out.length c2) (.slice none 0 0) (.slice none 0 0)).toArray 42 (0, 0)) := by rw [hW3, obj_set hm2 37 _, List.setIfInBounds_toArray, mset_out HH.out.1 _ c.out]
    have hk3 : ∀ g, g ≠ w1.heap.size → W3.heap[g]? = w2.heap[g]? := fun g hg => by rw [hW3]; exact Below.heap_setCell w2 ⟨w1.heap.size, 37, none⟩ _ g hg
    have hs3 : W3.heap.size = w2.heap.size := by rw [hW3]; simp [World.setCell]
    have hB3 : Below w.heap.size w W3 := by rw [hW3]; exact hB2.setCell (p := ⟨w1.heap.size, 37, none⟩) (Nat.le_of_lt hw1) _
    have ho3 : OwnB W3 W1.drew.heap.size ov c.out := OwnB.keep h3 fun g hg => hk3 g (by have := hov5 g hg; omega)
    have m40 : W3.cell? ⟨w1.heap.size, 40, none⟩ = some (.slice none 0 0) := (obj_cell hm3 40).trans (by rw [List.getElem?_toArray]; exact mget_tail HH.out.1 7)
    have hm3s : w1.heap.size < W3.heap.size := lt_of_block hm3
    have HS3 := Lib.hid hs3
    have HIB := Lib.hid (show Bs W3.heap.size W3 IA inp from (HH.out.2.2.2.2.2.2.1.below hB3).mono hB3.size)
    have HM3 := Lib.hid hm3
    have HO3 := Lib.hid (And.intro ho3 (And.intro h2 (And.intro hov5 hs12)))
    rw [← hW3]
    clear hs3 hW3 hm3 hk3 hm2 k37 g37 h2 h3 h4 h5 hB2 ho3 hov5 m37 c37 hs12
    have hil := HH.out.2.2.2.2.2.2.2.1
    go_wp2_with (at_builtin; refine wpList_appB _ rfl _ _ rfl W3.heap.size _ [] rfl (OwnB.nil _ _) W3.heap.size IA inp.length ic inp rfl rfl HIB.out (by rw [List.length_nil, Nat.zero_add]; exact hil) (Nat.le_refl _) ?_)
    intro v4 w4 hown4 hbel4 _
    have hs3 := HS3.out
    obtain ⟨A4, c4, rfl, -⟩ := hown4.form
    have hB34 : Below W3.heap.size W3 w4 := hbel4 W3 (Below.refl _ _)
    have hm4 := (hB34.block _ hm3s).trans HM3.out
    have k40 : w4.cell? ⟨w1.heap.size, 40, none⟩ = some (.slice none 0 0) := (hB34.cell (p := ⟨w1.heap.size, 40, none⟩) hm3s).trans m40
    have g40 := obj_frozen hm4 40
    obtain ⟨W0, hW0⟩ : ∃ W0 : World, W0 = w4.setCell ⟨w1.heap.size, 40, none⟩ (.slice A4 inp.length c4) := ⟨_, rfl⟩
    have hm0 : W0.heap[w1.heap.size]? = some (.cells (mcells c (.slice A2 c.out.length c2) (.slice none 0 0) (.slice A4 inp.length c4)).toArray 42 (0, 0)) := by rw [hW0, obj_set hm4 40 _, List.setIfInBounds_toArray, mset_iv HH.out.1]
    have hk0 : ∀ g, g ≠ w1.heap.size → W0.heap[g]? = w4.heap[g]? := fun g hg => by rw [hW0]; exact Below.heap_setCell w4 ⟨w1.heap.size, 40, none⟩ _ g hg
    have hs0 : W0.heap.size = w4.heap.size := by rw [hW0]; simp [World.setCell]
    have hB0 : Below w.heap.size w W0 := by rw [hW0]; exact (hB3.trans (hB34.mono hB3.size)).setCell (p := ⟨w1.heap.size, 40, none⟩) (Nat.le_of_lt hw1) _
    have hs34 := hB34.size
    have ho0 : OwnB W0 w.heap.size ov c.out := OwnB.base (OwnB.keep (HO3.out.1.below hB34) fun g hg => hk0 g (by have := HO3.out.2.2.1 g hg; omega)) (show w.heap.size ≤ W1.heap.size by omega)
    have hi0 : OwnB W0 w.heap.size (.slice A4 inp.length c4) inp := OwnB.base (OwnB.keep hown4 fun g hg => hk0 g (by have := (hown4.lt g hg).1; omega)) hB3.size
    have hiv : ∀ g, (Value.slice A4 inp.length c4).ownBlock = some g → g ≠ w1.heap.size ∧ ov.ownBlock ≠ some g := fun g hg => by
      have h1 := (hown4.lt g hg).1
      exact ⟨by omega, fun e => by have := HO3.out.2.2.1 g e; omega⟩
    have hm0s : w1.heap.size < W0.heap.size := lt_of_block hm0
    have HMd := Lib.hid (fun (wr : World) (v : Value) (fs : List Fr) (hL : RLoop W0 w1.heap.size c (.slice A2 c.out.length c2) (.slice A4 inp.length c4) ps ps.length wr v fs) =>
      hL.made (B := w.heap.size) H0.out HH.out.2.2.2.2.2.2.2.2 HH.out.1 HH.out.2.1 HH.out.2.2.1 HO3.out.2.1 ho0 hi0 (fun g hg => by have := HO3.out.2.2.1 g hg; omega) hiv (Nat.le_of_lt hw1) hm0s)
    have HM0 := Lib.hid hm0
    have HW0 := Lib.hid hW0
    clear hW0 hk0 hm4 ho0 hi0 hiv hm0 hown4 hbel4 hB34 m40 hs34 hs0 hs3 hm3s
    go_wp2_with fail
    rw [← HW0.out]
    go_loopw [91] (fun i wr => ∃ (k : Nat) (v : Value) (fs : List Fr), k ≤ ps.length ∧ i = .int .i64 k ∧ RLoop W0 w1.heap.size c (.slice A2 c.out.length c2) (.slice A4 inp.length c4) ps k wr v fs) (fun i _ => ps.length - (intOf i).toNat)
    case atStart => exact ⟨0, .slice none 0 0, [], Nat.zero_le _, rfl, ⟨.refl _ _, HM0.out, .nil _ _, by simp, by simp, by simp⟩⟩
    case round =>
      obtain ⟨k, v, fs, hk, rfl, hL⟩ := hrel
      have hBr : Below w.heap.size w wr := below_kept hB0 hL.kept (fun j hj => by subst hj; exact Nat.le_of_lt hw1) hB0.size
      have hmr : w1.heap.size < wr.heap.size := Nat.lt_of_lt_of_le hm0s hL.kept.size
      have hs0r := hL.kept.size
      by_cases hlt : k < ps.length
      · have td : decide ((k : Int) < (ps.length : Int)) = true := decide_eq_true (by omega)
        have hku : (k : Int) < (ps.length : Int) := by omega
        have hPr := HH.out.2.2.2.2.2.1.below hBr
        obtain ⟨x, hx⟩ : ∃ x, x = ps[k] := ⟨_, rfl⟩
        obtain ⟨b, o, rfl, hbl, c0, c1, c2'⟩ := hPr.cells k hlt
        rw [← hx] at c0 c1 c2'
        have hbx : Bs w.heap.size wr x.A x.data := by rw [hx]; exact hPr.bytes _ (List.getElem_mem hlt)
        have hsx := HH.out.2.2.2.2.2.1.small x (by rw [hx]; exact List.getElem_mem hlt)
        have hxk : ps[k]? = some x := by rw [hx]; exact List.getElem?_eq_getElem hlt
        have hx4 : x.data.length = 4096 := ((psOK_of H0.out).ok x.pg (by rw [hx]; exact List.mem_map_of_mem (List.getElem_mem hlt))).3
        have hbz : b < wr.heap.size := Nat.lt_of_lt_of_le hbl hBr.size
        have hfl := hL.len hk
        have hfew := from_few H0.out
        rw [List.length_map] at hfew
        obtain ⟨Av, cv, rfl, -⟩ := hL.own.row.form
        rw [List.length_map, hfl] at hL
        obtain ⟨Wp, hWp⟩ : ∃ Wp : World, Wp = wr.alloc (.cells #[.int .u64 (x.base : Int), .int .i64 x.perm, .slice x.A x.data.length x.cap] 54) := ⟨_, rfl⟩
        have hp1 : Wp.heap[wr.heap.size]? = some (.cells #[.int .u64 (x.base : Int), .int .i64 x.perm, .slice x.A x.data.length x.cap] 54 (0, 0)) := by rw [hWp]; exact heap_alloc_new wr _
        have hBp : Below wr.heap.size wr Wp := by rw [hWp]; exact (Below.refl _ _).alloc (Nat.le_refl _) _
        have hLp := hL.below hmr hBp
        have hps : wr.heap.size < Wp.heap.size := lt_of_block hp1
        have y0 : Wp.cell? ⟨wr.heap.size, 0, none⟩ = some (.int .u64 (x.base : Int)) := obj_cell hp1 0
        have y1 : Wp.cell? ⟨wr.heap.size, 1, none⟩ = some (.int .i64 x.perm) := obj_cell hp1 1
        have y2 : Wp.cell? ⟨wr.heap.size, 2, none⟩ = some (.slice x.A x.data.length x.cap) := obj_cell hp1 2
        have y39 : Wp.cell? ⟨w1.heap.size, 39, none⟩ = some (.slice Av k cv) := (obj_cell hLp.cells 39).trans (by rw [List.getElem?_toArray]; exact mget_tail HH.out.1 6)
        have hbp : Bs Wp.drew.heap.size Wp.drew x.A x.data := Cs.mono ((hbx.below (hBp.mono hBr.size)).below (Below.refl _ _).drew) (Nat.le_trans hBr.size hBp.size)
        have HX := Lib.hid (And.intro hxk (And.intro hx4 (And.intro hsx (And.intro hfl (And.intro hfew hL.lt)))))
        have HLp := Lib.hid hLp
        have HL := Lib.hid hL
        have HBp := Lib.hid hbp
        have hWl : W0.heap.size ≤ Wp.drew.heap.size := Nat.le_trans hs0r hBp.size
        have hWl2 : W0.heap.size ≤ Wp.heap.size := hWl
        have hne : w1.heap.size ≠ wr.heap.size := by omega
        have HWp := Lib.hid hWp
        clear hWp hp1 hx hLp hbp hbx hsx hxk hx4 hfl hfew hPr hL
        go_wp2_with fail
        rw [← HWp.out]
        have hkb := HX.out.2.2.2.2.1
        refine wp_region_held_drew (S := fun w' => w'.cell? ⟨wr.heap.size, 0, none⟩ = some (.int .u64 (x.base : Int)) ∧ w'.cell? ⟨wr.heap.size, 1, none⟩ = some (.int .i64 x.perm) ∧ w'.cell? ⟨wr.heap.size, 2, none⟩ = some (.slice x.A x.data.length x.cap)) (by kernel_rfl) ⟨y0, y1, y2⟩ (fun hS => ?_)
        refine wpAnyH_take (i := 0) (oi := ⟨some 95, _, _, _, _, _⟩) (v := .pointer (some ⟨w1.heap.size, 0, none⟩)) rfl (by kernel_rfl) (by kernel_rfl) (by kernel_rfl) (fun _ _ _ h => h) (Or.inl ⟨by rfl, fun w' hS' => by go_simp⟩) hS ?_
        try simp only [Act.put, List.setIfInBounds_toArray, List.set_cons_zero, List.set_cons_succ]
        refine wpAnyH_take (i := 1) (oi := ⟨some 96, _, _, _, _, _⟩) (v := .pointer (some ⟨w1.heap.size, 0, none⟩)) rfl (by kernel_rfl) (by kernel_rfl) (by kernel_rfl) (fun _ _ _ h => h) (Or.inl ⟨by rfl, fun w' hS' => by go_simp⟩) hS ?_
        try simp only [Act.put, List.setIfInBounds_toArray, List.set_cons_zero, List.set_cons_succ]
        refine wpAnyH_take (i := 2) (oi := ⟨some 97, _, _, _, _, _⟩) (v := .pointer (some ⟨w1.heap.size, 0, none⟩)) rfl (by kernel_rfl) (by kernel_rfl) (by kernel_rfl) (fun _ _ _ h => h) (Or.inl ⟨by rfl, fun w' hS' => by go_simp⟩) hS ?_
        try simp only [Act.put, List.setIfInBounds_toArray, List.set_cons_zero, List.set_cons_succ]
        refine wpAnyH_take (i := 3) (oi := ⟨some 98, _, _, _, _, _⟩) (v := .pointer (some ⟨w1.heap.size, 39, none⟩)) rfl (by kernel_rfl) (by kernel_rfl) (by kernel_rfl) (fun _ _ _ h => h) (Or.inl ⟨by rfl, fun w' hS' => by go_simp⟩) hS ?_
        try simp only [Act.put, List.setIfInBounds_toArray, List.set_cons_zero, List.set_cons_succ]
        refine wpAnyH_take (i := 5) (oi := ⟨some 100, _, _, _, _, _⟩) (v := .pointer (some ⟨wr.heap.size, 0, none⟩)) rfl (by kernel_rfl) (by kernel_rfl) (by kernel_rfl) (fun _ _ _ h => h) (Or.inl ⟨by rfl, fun w' hS' => by go_simp⟩) hS ?_
        try simp only [Act.put, List.setIfInBounds_toArray, List.set_cons_zero, List.set_cons_succ]
        refine wpAnyH_take (i := 6) (oi := ⟨some 101, _, _, _, _, _⟩) (v := .int .u64 (x.base : Int)) rfl (by kernel_rfl) (by kernel_rfl) (by kernel_rfl) (fun _ _ _ h => h) (Or.inl ⟨by rfl, fun w' hS' => by obtain ⟨h1, h2, h3⟩ := hS'; go_simp⟩) hS ?_
        try simp only [Act.put, List.setIfInBounds_toArray, List.set_cons_zero, List.set_cons_succ]
        refine wpAnyH_take (i := 7) (oi := ⟨some 102, _, _, _, _, _⟩) (v := .pointer (some ⟨wr.heap.size, 1, none⟩)) rfl (by kernel_rfl) (by kernel_rfl) (by kernel_rfl) (fun _ _ _ h => h) (Or.inl ⟨by rfl, fun w' hS' => by go_simp⟩) hS ?_
        try simp only [Act.put, List.setIfInBounds_toArray, List.set_cons_zero, List.set_cons_succ]
        refine wpAnyH_take (i := 8) (oi := ⟨some 103, _, _, _, _, _⟩) (v := .int .i64 x.perm) rfl (by kernel_rfl) (by kernel_rfl) (by kernel_rfl) (fun _ _ _ h => h) (Or.inl ⟨by rfl, fun w' hS' => by obtain ⟨h1, h2, h3⟩ := hS'; go_simp⟩) hS ?_
        try simp only [Act.put, List.setIfInBounds_toArray, List.set_cons_zero, List.set_cons_succ]
        refine wpAnyH_take (i := 9) (oi := ⟨some 104, _, _, _, _, _⟩) (v := .slice none 0 0) rfl (by kernel_rfl) (by kernel_rfl) (by kernel_rfl) (fun _ _ _ h => h) (Or.inl ⟨by rfl, fun w' hS' => by go_simp⟩) hS ?_
        try simp only [Act.put, List.setIfInBounds_toArray, List.set_cons_zero, List.set_cons_succ]
        refine wpAnyH_take (i := 10) (oi := ⟨some 105, _, _, _, _, _⟩) (v := .pointer (some ⟨wr.heap.size, 2, none⟩)) rfl (by kernel_rfl) (by kernel_rfl) (by kernel_rfl) (fun _ _ _ h => h) (Or.inl ⟨by rfl, fun w' hS' => by go_simp⟩) hS ?_
        try simp only [Act.put, List.setIfInBounds_toArray, List.set_cons_zero, List.set_cons_succ]
        refine wpAnyH_take (i := 11) (oi := ⟨some 106, _, _, _, _, _⟩) (v := .slice x.A x.data.length x.cap) rfl (by kernel_rfl) (by kernel_rfl) (by kernel_rfl) (fun _ _ _ h => h) (Or.inl ⟨by rfl, fun w' hS' => by obtain ⟨h1, h2, h3⟩ := hS'; go_simp⟩) hS ?_
        try simp only [Act.put, List.setIfInBounds_toArray, List.set_cons_zero, List.set_cons_succ]
        refine wpAnyH_ready (rs := [4, 12]) (by kernel_rfl) (by simp) ?_
        refine AllReadyH.cons (o := ⟨some 99, _, _, _, _, _⟩) rfl (fun K hK => ?_) ?_
        · go_simp
          refine hK.out _ _ ⟨y0, y1, y2⟩ (fun hS => ?_)
          clear hK K
          try simp only [Act.put, List.setIfInBounds_toArray, List.set_cons_zero, List.set_cons_succ]
          refine wpAnyH_ready (rs := [12]) (by kernel_rfl) (by simp) ?_
          refine AllReadyH.cons (o := ⟨some 107, _, _, _, _, _⟩) rfl (fun K hK => ?_) AllReadyH.nil
          refine step_app rfl (.tmp 104) (.tmp 106) 25 rfl Tryz_elU8 W0.heap.size (.slice none 0 0) 0 [] (by exact rfl) (World.ownsRow_nil _ _ _ _) Wp.drew.heap.size x.A x.data.length x.cap (bcells x.data) (by exact rfl) (by rw [bcells_length, Nat.mul_one]) HBp.out (bcells_one _) (by have := HX.out.2.1; simp only [maxLen]; omega) (by have := HX.out.2.1; omega) hWl ?_
          intro v5 w5 h1 hg5 hnil hat
          rw [Nat.zero_add, List.nil_append] at h1
          have ho5 : OwnB w5 W0.heap.size v5 x.data := h1
          obtain ⟨g, cap5, rfl, hg0, hg1, -⟩ := fr_of_own ho5 HX.out.2.1 0 0
          obtain rfl : g = Wp.heap.size := by rcases hat with e | e <;> cases e; rfl
          have hB5 : Below Wp.heap.size Wp w5 := (Below.refl _ _).drew.grown hg5 (Nat.le_refl _) (fun k hk => by cases hk)
          have z39 := (hB5.cell (p := ⟨w1.heap.size, 39, none⟩) (Nat.lt_trans hmr hps)).trans y39
          have z0 := (hB5.cell (p := ⟨wr.heap.size, 0, none⟩) hps).trans y0
          have z1 := (hB5.cell (p := ⟨wr.heap.size, 1, none⟩) hps).trans y1
          have z2 := (hB5.cell (p := ⟨wr.heap.size, 2, none⟩) hps).trans y2
          have hs5 := hB5.size
          have l39 : ∀ u, (w5.alloc u).cell? ⟨w1.heap.size, 39, none⟩ = some (.slice Av k cv) := fun u => (World.cell?_alloc_lt w5 _ ⟨w1.heap.size, 39, none⟩ (by show w1.heap.size < _; omega)).trans z39
          have l0 : ∀ u, (w5.alloc u).cell? ⟨wr.heap.size, 0, none⟩ = some (.int .u64 (x.base : Int)) := fun u => (World.cell?_alloc_lt w5 _ ⟨wr.heap.size, 0, none⟩ (by show wr.heap.size < _; omega)).trans z0
          have l1 : ∀ u, (w5.alloc u).cell? ⟨wr.heap.size, 1, none⟩ = some (.int .i64 x.perm) := fun u => (World.cell?_alloc_lt w5 _ ⟨wr.heap.size, 1, none⟩ (by show wr.heap.size < _; omega)).trans z1
          have l2 : ∀ u, (w5.alloc u).cell? ⟨wr.heap.size, 2, none⟩ = some (.slice x.A x.data.length x.cap) := fun u => (World.cell?_alloc_lt w5 _ ⟨wr.heap.size, 2, none⟩ (by show wr.heap.size < _; omega)).trans z2
          have hL5 := HLp.out.below (Nat.lt_trans hmr hps) hB5
          have hL6 := fun o => hL5.below (Nat.lt_of_lt_of_le (Nat.lt_trans hmr hps) hs5) ((Below.refl w5.heap.size w5).alloc (Nat.le_refl _) o)
          refine hK.out _ _ ⟨z0, z1, z2⟩ (fun hS => ?_)
          clear hK K
          try simp only [Act.put, List.setIfInBounds_toArray, List.set_cons_zero, List.set_cons_succ]
          refine wpAnyH_take (i := 13) (oi := ⟨some 108, _, _, _, _, _⟩) (v := .agg #[.int .u64 (x.base : Int), .int .i64 x.perm, .slice (some ⟨Wp.heap.size, 0, none⟩) x.data.length cap5]) rfl (by kernel_rfl) (by kernel_rfl) (by kernel_rfl) (fun _ _ _ h => h) (Or.inl ⟨by rfl, fun w' hS' => by go_simp⟩) hS ?_
          try simp only [Act.put, List.setIfInBounds_toArray, List.set_cons_zero, List.set_cons_succ]
          refine wpAnyH_ready (rs := [14]) (by kernel_rfl) (by simp) ?_
          refine AllReadyH.cons (o := ⟨some 109, _, _, _, _, _⟩) rfl (fun K hK => ?_) AllReadyH.nil
          go_simp
          refine hK.out _ _ ⟨l0 _, l1 _, l2 _⟩ (fun hS => ?_)
          clear hK K
          try simp only [Act.put, List.setIfInBounds_toArray, List.set_cons_zero, List.set_cons_succ]
          refine wpAnyH_ready (rs := [15]) (by kernel_rfl) (by simp) ?_
          refine AllReadyH.cons (o := ⟨some 110, _, _, _, _, _⟩) rfl (fun K hK => ?_) AllReadyH.nil
          refine step_appP rfl (.tmp 99) (.tmp 109) rfl W0.heap.size (.slice Av k cv) (fs.map frP) (by rfl) (hL6 (.cells #[.int .u64 (x.base : Int), .int .i64 x.perm, .slice (some ⟨Wp.heap.size, 0, none⟩) x.data.length cap5] 54)).own w5.heap.size 1 ⟨x.base, x.perm, some ⟨Wp.heap.size, 0, none⟩, cap5, x.data⟩ (by rfl) (heap_alloc_new w5 (.cells #[.int .u64 (x.base : Int), .int .i64 x.perm, .slice (some ⟨Wp.heap.size, 0, none⟩) x.data.length cap5] 54)) (ho5.keep fun b hb => Below.heap_alloc w5 (.cells #[.int .u64 (x.base : Int), .int .i64 x.perm, .slice (some ⟨Wp.heap.size, 0, none⟩) x.data.length cap5] 54) b (ho5.lt b hb).2) HX.out.2.2.1 (by have := HX.out.2.2.2; rw [List.length_map]; omega) (by rw [World.size_alloc]; omega) ?_
          intro v6 w6 h6 hg6
          obtain ⟨A6, c6, hv6, -⟩ := h6.row.form
          rw [List.length_append, List.length_map, HX.out.2.2.2.1, List.length_singleton] at hv6
          subst hv6
          have hn6 := (hL6 (.cells #[.int .u64 (x.base : Int), .int .i64 x.perm, .slice (some ⟨Wp.heap.size, 0, none⟩) x.data.length cap5] 54)).next HH.out.1 HX.out.1 hm0s hg0 (by rw [World.size_alloc]; omega) (fun f hf e => by have := (HX.out.2.2.2.2.2 f hf).2; omega) h6 hg6
          have hb6 : ∀ b, (Value.slice Av k cv).ownBlock = some b → W0.heap.size ≤ b := fun b hb => ((hL6 (.cells #[.int .u64 (x.base : Int), .int .i64 x.perm, .slice (some ⟨Wp.heap.size, 0, none⟩) x.data.length cap5] 54)).own.row.block hb).1
          have hr6 : ∀ b, (Value.slice Av k cv).ownBlock = some b → b ≠ wr.heap.size := fun b hb e => by
            obtain ⟨-, cur, hc⟩ := HL.out.own.row.block hb
            have := lt_of_block hc
            omega
          have hm6 := (hg6.block w1.heap.size (by rw [World.size_alloc]; omega) (fun e => by have := hb6 _ e.symm; omega)).trans (hL6 (.cells #[.int .u64 (x.base : Int), .int .i64 x.perm, .slice (some ⟨Wp.heap.size, 0, none⟩) x.data.length cap5] 54)).cells
          have q39 : w6.cell? ⟨w1.heap.size, 39, none⟩ = some (.slice Av k cv) := (obj_cell hm6 39).trans (by rw [List.getElem?_toArray]; exact mget_tail HH.out.1 6)
          have hp6 := hg6.block wr.heap.size (by rw [World.size_alloc]; omega) (fun e => hr6 _ e.symm rfl)
          have q0 : w6.cell? ⟨wr.heap.size, 0, none⟩ = some (.int .u64 (x.base : Int)) := (World.cell?_of_block (w := w5.alloc (.cells #[.int .u64 (x.base : Int), .int .i64 x.perm, .slice (some ⟨Wp.heap.size, 0, none⟩) x.data.length cap5] 54)) hp6).trans (l0 _)
          have r0 : ∀ u, (w6.setCell ⟨w1.heap.size, 39, none⟩ u).cell? ⟨wr.heap.size, 0, none⟩ = some (.int .u64 (x.base : Int)) := fun u => (World.cell?_of_block (Below.heap_setCell _ _ _ _ (show wr.heap.size ≠ w1.heap.size by omega))).trans q0
          have q1 : w6.cell? ⟨wr.heap.size, 1, none⟩ = some (.int .i64 x.perm) := (World.cell?_of_block (w := w5.alloc (.cells #[.int .u64 (x.base : Int), .int .i64 x.perm, .slice (some ⟨Wp.heap.size, 0, none⟩) x.data.length cap5] 54)) hp6).trans (l1 _)
          have r1 : ∀ u, (w6.setCell ⟨w1.heap.size, 39, none⟩ u).cell? ⟨wr.heap.size, 1, none⟩ = some (.int .i64 x.perm) := fun u => (World.cell?_of_block (Below.heap_setCell _ _ _ _ (show wr.heap.size ≠ w1.heap.size by omega))).trans q1
          have q2 : w6.cell? ⟨wr.heap.size, 2, none⟩ = some (.slice x.A x.data.length x.cap) := (World.cell?_of_block (w := w5.alloc (.cells #[.int .u64 (x.base : Int), .int .i64 x.perm, .slice (some ⟨Wp.heap.size, 0, none⟩) x.data.length cap5] 54)) hp6).trans (l2 _)
          have r2 : ∀ u, (w6.setCell ⟨w1.heap.size, 39, none⟩ u).cell? ⟨wr.heap.size, 2, none⟩ = some (.slice x.A x.data.length x.cap) := fun u => (World.cell?_of_block (Below.heap_setCell _ _ _ _ (show wr.heap.size ≠ w1.heap.size by omega))).trans q2
          have f39 := obj_frozen hm6 39
          refine hK.out _ _ ⟨q0, q1, q2⟩ (fun hS => ?_)
          clear hK K
          try simp only [Act.put, List.setIfInBounds_toArray, List.set_cons_zero, List.set_cons_succ]
          refine wpAnyH_take (i := 16) (oi := ⟨some 111, _, _, _, _, _⟩) (v := .pointer (some ⟨w1.heap.size, 0, none⟩)) rfl (by kernel_rfl) (by kernel_rfl) (by kernel_rfl) (fun _ _ _ h => h) (Or.inl ⟨by rfl, fun w' hS' => by go_simp⟩) hS ?_
          try simp only [Act.put, List.setIfInBounds_toArray, List.set_cons_zero, List.set_cons_succ]
          refine wpAnyH_take (i := 17) (oi := ⟨some 112, _, _, _, _, _⟩) (v := .pointer (some ⟨w1.heap.size, 39, none⟩)) rfl (by kernel_rfl) (by kernel_rfl) (by kernel_rfl) (fun _ _ _ h => h) (Or.inl ⟨by rfl, fun w' hS' => by go_simp⟩) hS ?_
          try simp only [Act.put, List.setIfInBounds_toArray, List.set_cons_zero, List.set_cons_succ]
          refine wpAnyH_ready (rs := [18]) (by kernel_rfl) (by simp) ?_
          refine AllReadyH.cons (o := ⟨none, _, _, _, _, _⟩) rfl (fun K hK => ?_) AllReadyH.nil
          go_simp
          refine hK.out _ _ ⟨r0 _, r1 _, r2 _⟩ (fun hS => ?_)
          clear hK K
          try simp only [Act.put, List.setIfInBounds_toArray, List.set_cons_zero, List.set_cons_succ]
          refine wpAnyH_done (by kernel_rfl) ?_ _
          go_wp2_with fail
          go_roundw
          case rel => exact ⟨k + 1, _, _, by omega, by go_num, hn6⟩
          case measure => simp [intOf]; omega
        · refine AllReadyH.cons (o := ⟨some 107, _, _, _, _, _⟩) rfl (fun K hK => ?_) AllReadyH.nil
          refine step_app rfl (.tmp 104) (.tmp 106) 25 rfl Tryz_elU8 W0.heap.size (.slice none 0 0) 0 [] (by exact rfl) (World.ownsRow_nil _ _ _ _) Wp.drew.heap.size x.A x.data.length x.cap (bcells x.data) (by exact rfl) (by rw [bcells_length, Nat.mul_one]) HBp.out (bcells_one _) (by have := HX.out.2.1; simp only [maxLen]; omega) (by have := HX.out.2.1; omega) hWl ?_
          intro v5 w5 h1 hg5 hnil hat
          rw [Nat.zero_add, List.nil_append] at h1
          have ho5 : OwnB w5 W0.heap.size v5 x.data := h1
          obtain ⟨g, cap5, rfl, hg0, hg1, -⟩ := fr_of_own ho5 HX.out.2.1 0 0
          obtain rfl : g = Wp.heap.size := by rcases hat with e | e <;> cases e; rfl
          have hB5 : Below Wp.heap.size Wp w5 := (Below.refl _ _).drew.grown hg5 (Nat.le_refl _) (fun k hk => by cases hk)
          have z39 := (hB5.cell (p := ⟨w1.heap.size, 39, none⟩) (Nat.lt_trans hmr hps)).trans y39
          have z0 := (hB5.cell (p := ⟨wr.heap.size, 0, none⟩) hps).trans y0
          have z1 := (hB5.cell (p := ⟨wr.heap.size, 1, none⟩) hps).trans y1
          have z2 := (hB5.cell (p := ⟨wr.heap.size, 2, none⟩) hps).trans y2
          have hs5 := hB5.size
          have l39 : ∀ u, (w5.alloc u).cell? ⟨w1.heap.size, 39, none⟩ = some (.slice Av k cv) := fun u => (World.cell?_alloc_lt w5 _ ⟨w1.heap.size, 39, none⟩ (by show w1.heap.size < _; omega)).trans z39
          have l0 : ∀ u, (w5.alloc u).cell? ⟨wr.heap.size, 0, none⟩ = some (.int .u64 (x.base : Int)) := fun u => (World.cell?_alloc_lt w5 _ ⟨wr.heap.size, 0, none⟩ (by show wr.heap.size < _; omega)).trans z0
          have l1 : ∀ u, (w5.alloc u).cell? ⟨wr.heap.size, 1, none⟩ = some (.int .i64 x.perm) := fun u => (World.cell?_alloc_lt w5 _ ⟨wr.heap.size, 1, none⟩ (by show wr.heap.size < _; omega)).trans z1
          have l2 : ∀ u, (w5.alloc u).cell? ⟨wr.heap.size, 2, none⟩ = some (.slice x.A x.data.length x.cap) := fun u => (World.cell?_alloc_lt w5 _ ⟨wr.heap.size, 2, none⟩ (by show wr.heap.size < _; omega)).trans z2
          have hL5 := HLp.out.below (Nat.lt_trans hmr hps) hB5
          have hL6 := fun o => hL5.below (Nat.lt_of_lt_of_le (Nat.lt_trans hmr hps) hs5) ((Below.refl w5.heap.size w5).alloc (Nat.le_refl _) o)
          refine hK.out _ _ ⟨z0, z1, z2⟩ (fun hS => ?_)
          clear hK K
          try simp only [Act.put, List.setIfInBounds_toArray, List.set_cons_zero, List.set_cons_succ]
          refine wpAnyH_take (i := 13) (oi := ⟨some 108, _, _, _, _, _⟩) (v := .agg #[.int .u64 (x.base : Int), .int .i64 x.perm, .slice (some ⟨Wp.heap.size, 0, none⟩) x.data.length cap5]) rfl (by kernel_rfl) (by kernel_rfl) (by kernel_rfl) (fun _ _ _ h => h) (Or.inl ⟨by rfl, fun w' hS' => by go_simp⟩) hS ?_
          try simp only [Act.put, List.setIfInBounds_toArray, List.set_cons_zero, List.set_cons_succ]
          refine wpAnyH_ready (rs := [4, 14]) (by kernel_rfl) (by simp) ?_
          refine AllReadyH.cons (o := ⟨some 99, _, _, _, _, _⟩) rfl (fun K hK => ?_) ?_
          · go_simp
            refine hK.out _ _ ⟨z0, z1, z2⟩ (fun hS => ?_)
            clear hK K
            try simp only [Act.put, List.setIfInBounds_toArray, List.set_cons_zero, List.set_cons_succ]
            refine wpAnyH_ready (rs := [14]) (by kernel_rfl) (by simp) ?_
            refine AllReadyH.cons (o := ⟨some 109, _, _, _, _, _⟩) rfl (fun K hK => ?_) AllReadyH.nil
            go_simp
            refine hK.out _ _ ⟨l0 _, l1 _, l2 _⟩ (fun hS => ?_)
            clear hK K
            try simp only [Act.put, List.setIfInBounds_toArray, List.set_cons_zero, List.set_cons_succ]
            refine wpAnyH_ready (rs := [15]) (by kernel_rfl) (by simp) ?_
            refine AllReadyH.cons (o := ⟨some 110, _, _, _, _, _⟩) rfl (fun K hK => ?_) AllReadyH.nil
            refine step_appP rfl (.tmp 99) (.tmp 109) rfl W0.heap.size (.slice Av k cv) (fs.map frP) (by rfl) (hL6 (.cells #[.int .u64 (x.base : Int), .int .i64 x.perm, .slice (some ⟨Wp.heap.size, 0, none⟩) x.data.length cap5] 54)).own w5.heap.size 1 ⟨x.base, x.perm, some ⟨Wp.heap.size, 0, none⟩, cap5, x.data⟩ (by rfl) (heap_alloc_new w5 (.cells #[.int .u64 (x.base : Int), .int .i64 x.perm, .slice (some ⟨Wp.heap.size, 0, none⟩) x.data.length cap5] 54)) (ho5.keep fun b hb => Below.heap_alloc w5 (.cells #[.int .u64 (x.base : Int), .int .i64 x.perm, .slice (some ⟨Wp.heap.size, 0, none⟩) x.data.length cap5] 54) b (ho5.lt b hb).2) HX.out.2.2.1 (by have := HX.out.2.2.2; rw [List.length_map]; omega) (by rw [World.size_alloc]; omega) ?_
            intro v6 w6 h6 hg6
            obtain ⟨A6, c6, hv6, -⟩ := h6.row.form
            rw [List.length_append, List.length_map, HX.out.2.2.2.1, List.length_singleton] at hv6
            subst hv6
            have hn6 := (hL6 (.cells #[.int .u64 (x.base : Int), .int .i64 x.perm, .slice (some ⟨Wp.heap.size, 0, none⟩) x.data.length cap5] 54)).next HH.out.1 HX.out.1 hm0s hg0 (by rw [World.size_alloc]; omega) (fun f hf e => by have := (HX.out.2.2.2.2.2 f hf).2; omega) h6 hg6
            have hb6 : ∀ b, (Value.slice Av k cv).ownBlock = some b → W0.heap.size ≤ b := fun b hb => ((hL6 (.cells #[.int .u64 (x.base : Int), .int .i64 x.perm, .slice (some ⟨Wp.heap.size, 0, none⟩) x.data.length cap5] 54)).own.row.block hb).1
            have hr6 : ∀ b, (Value.slice Av k cv).ownBlock = some b → b ≠ wr.heap.size := fun b hb e => by
              obtain ⟨-, cur, hc⟩ := HL.out.own.row.block hb
              have := lt_of_block hc
              omega
            have hm6 := (hg6.block w1.heap.size (by rw [World.size_alloc]; omega) (fun e => by have := hb6 _ e.symm; omega)).trans (hL6 (.cells #[.int .u64 (x.base : Int), .int .i64 x.perm, .slice (some ⟨Wp.heap.size, 0, none⟩) x.data.length cap5] 54)).cells
            have q39 : w6.cell? ⟨w1.heap.size, 39, none⟩ = some (.slice Av k cv) := (obj_cell hm6 39).trans (by rw [List.getElem?_toArray]; exact mget_tail HH.out.1 6)
            have hp6 := hg6.block wr.heap.size (by rw [World.size_alloc]; omega) (fun e => hr6 _ e.symm rfl)
            have q0 : w6.cell? ⟨wr.heap.size, 0, none⟩ = some (.int .u64 (x.base : Int)) := (World.cell?_of_block (w := w5.alloc (.cells #[.int .u64 (x.base : Int), .int .i64 x.perm, .slice (some ⟨Wp.heap.size, 0, none⟩) x.data.length cap5] 54)) hp6).trans (l0 _)
            have r0 : ∀ u, (w6.setCell ⟨w1.heap.size, 39, none⟩ u).cell? ⟨wr.heap.size, 0, none⟩ = some (.int .u64 (x.base : Int)) := fun u => (World.cell?_of_block (Below.heap_setCell _ _ _ _ (show wr.heap.size ≠ w1.heap.size by omega))).trans q0
            have q1 : w6.cell? ⟨wr.heap.size, 1, none⟩ = some (.int .i64 x.perm) := (World.cell?_of_block (w := w5.alloc (.cells #[.int .u64 (x.base : Int), .int .i64 x.perm, .slice (some ⟨Wp.heap.size, 0, none⟩) x.data.length cap5] 54)) hp6).trans (l1 _)
            have r1 : ∀ u, (w6.setCell ⟨w1.heap.size, 39, none⟩ u).cell? ⟨wr.heap.size, 1, none⟩ = some (.int .i64 x.perm) := fun u => (World.cell?_of_block (Below.heap_setCell _ _ _ _ (show wr.heap.size ≠ w1.heap.size by omega))).trans q1
            have q2 : w6.cell? ⟨wr.heap.size, 2, none⟩ = some (.slice x.A x.data.length x.cap) := (World.cell?_of_block (w := w5.alloc (.cells #[.int .u64 (x.base : Int), .int .i64 x.perm, .slice (some ⟨Wp.heap.size, 0, none⟩) x.data.length cap5] 54)) hp6).trans (l2 _)
            have r2 : ∀ u, (w6.setCell ⟨w1.heap.size, 39, none⟩ u).cell? ⟨wr.heap.size, 2, none⟩ = some (.slice x.A x.data.length x.cap) := fun u => (World.cell?_of_block (Below.heap_setCell _ _ _ _ (show wr.heap.size ≠ w1.heap.size by omega))).trans q2
            have f39 := obj_frozen hm6 39
            refine hK.out _ _ ⟨q0, q1, q2⟩ (fun hS => ?_)
            clear hK K
            try simp only [Act.put, List.setIfInBounds_toArray, List.set_cons_zero, List.set_cons_succ]
            refine wpAnyH_take (i := 16) (oi := ⟨some 111, _, _, _, _, _⟩) (v := .pointer (some ⟨w1.heap.size, 0, none⟩)) rfl (by kernel_rfl) (by kernel_rfl) (by kernel_rfl) (fun _ _ _ h => h) (Or.inl ⟨by rfl, fun w' hS' => by go_simp⟩) hS ?_
            try simp only [Act.put, List.setIfInBounds_toArray, List.set_cons_zero, List.set_cons_succ]
            refine wpAnyH_take (i := 17) (oi := ⟨some 112, _, _, _, _, _⟩) (v := .pointer (some ⟨w1.heap.size, 39, none⟩)) rfl (by kernel_rfl) (by kernel_rfl) (by kernel_rfl) (fun _ _ _ h => h) (Or.inl ⟨by rfl, fun w' hS' => by go_simp⟩) hS ?_
            try simp only [Act.put, List.setIfInBounds_toArray, List.set_cons_zero, List.set_cons_succ]
            refine wpAnyH_ready (rs := [18]) (by kernel_rfl) (by simp) ?_
            refine AllReadyH.cons (o := ⟨none, _, _, _, _, _⟩) rfl (fun K hK => ?_) AllReadyH.nil
            go_simp
            refine hK.out _ _ ⟨r0 _, r1 _, r2 _⟩ (fun hS => ?_)
            clear hK K
            try simp only [Act.put, List.setIfInBounds_toArray, List.set_cons_zero, List.set_cons_succ]
            refine wpAnyH_done (by kernel_rfl) ?_ _
            go_wp2_with fail
            go_roundw
            case rel => exact ⟨k + 1, _, _, by omega, by go_num, hn6⟩
            case measure => simp [intOf]; omega
          · refine AllReadyH.cons (o := ⟨some 109, _, _, _, _, _⟩) rfl (fun K hK => ?_) AllReadyH.nil
            go_simp
            refine hK.out _ _ ⟨l0 _, l1 _, l2 _⟩ (fun hS => ?_)
            clear hK K
            try simp only [Act.put, List.setIfInBounds_toArray, List.set_cons_zero, List.set_cons_succ]
            refine wpAnyH_ready (rs := [4]) (by kernel_rfl) (by simp) ?_
            refine AllReadyH.cons (o := ⟨some 99, _, _, _, _, _⟩) rfl (fun K hK => ?_) AllReadyH.nil
            go_simp
            refine hK.out _ _ ⟨l0 _, l1 _, l2 _⟩ (fun hS => ?_)
            clear hK K
            try simp only [Act.put, List.setIfInBounds_toArray, List.set_cons_zero, List.set_cons_succ]
            refine wpAnyH_ready (rs := [15]) (by kernel_rfl) (by simp) ?_
            refine AllReadyH.cons (o := ⟨some 110, _, _, _, _, _⟩) rfl (fun K hK => ?_) AllReadyH.nil
            refine step_appP rfl (.tmp 99) (.tmp 109) rfl W0.heap.size (.slice Av k cv) (fs.map frP) (by rfl) (hL6 (.cells #[.int .u64 (x.base : Int), .int .i64 x.perm, .slice (some ⟨Wp.heap.size, 0, none⟩) x.data.length cap5] 54)).own w5.heap.size 1 ⟨x.base, x.perm, some ⟨Wp.heap.size, 0, none⟩, cap5, x.data⟩ (by rfl) (heap_alloc_new w5 (.cells #[.int .u64 (x.base : Int), .int .i64 x.perm, .slice (some ⟨Wp.heap.size, 0, none⟩) x.data.length cap5] 54)) (ho5.keep fun b hb => Below.heap_alloc w5 (.cells #[.int .u64 (x.base : Int), .int .i64 x.perm, .slice (some ⟨Wp.heap.size, 0, none⟩) x.data.length cap5] 54) b (ho5.lt b hb).2) HX.out.2.2.1 (by have := HX.out.2.2.2; rw [List.length_map]; omega) (by rw [World.size_alloc]; omega) ?_
            intro v6 w6 h6 hg6
            obtain ⟨A6, c6, hv6, -⟩ := h6.row.form
            rw [List.length_append, List.length_map, HX.out.2.2.2.1, List.length_singleton] at hv6
            subst hv6
            have hn6 := (hL6 (.cells #[.int .u64 (x.base : Int), .int .i64 x.perm, .slice (some ⟨Wp.heap.size, 0, none⟩) x.data.length cap5] 54)).next HH.out.1 HX.out.1 hm0s hg0 (by rw [World.size_alloc]; omega) (fun f hf e => by have := (HX.out.2.2.2.2.2 f hf).2; omega) h6 hg6
            have hb6 : ∀ b, (Value.slice Av k cv).ownBlock = some b → W0.heap.size ≤ b := fun b hb => ((hL6 (.cells #[.int .u64 (x.base : Int), .int .i64 x.perm, .slice (some ⟨Wp.heap.size, 0, none⟩) x.data.length cap5] 54)).own.row.block hb).1
            have hr6 : ∀ b, (Value.slice Av k cv).ownBlock = some b → b ≠ wr.heap.size := fun b hb e => by
              obtain ⟨-, cur, hc⟩ := HL.out.own.row.block hb
              have := lt_of_block hc
              omega
            have hm6 := (hg6.block w1.heap.size (by rw [World.size_alloc]; omega) (fun e => by have := hb6 _ e.symm; omega)).trans (hL6 (.cells #[.int .u64 (x.base : Int), .int .i64 x.perm, .slice (some ⟨Wp.heap.size, 0, none⟩) x.data.length cap5] 54)).cells
            have q39 : w6.cell? ⟨w1.heap.size, 39, none⟩ = some (.slice Av k cv) := (obj_cell hm6 39).trans (by rw [List.getElem?_toArray]; exact mget_tail HH.out.1 6)
            have hp6 := hg6.block wr.heap.size (by rw [World.size_alloc]; omega) (fun e => hr6 _ e.symm rfl)
            have q0 : w6.cell? ⟨wr.heap.size, 0, none⟩ = some (.int .u64 (x.base : Int)) := (World.cell?_of_block (w := w5.alloc (.cells #[.int .u64 (x.base : Int), .int .i64 x.perm, .slice (some ⟨Wp.heap.size, 0, none⟩) x.data.length cap5] 54)) hp6).trans (l0 _)
            have r0 : ∀ u, (w6.setCell ⟨w1.heap.size, 39, none⟩ u).cell? ⟨wr.heap.size, 0, none⟩ = some (.int .u64 (x.base : Int)) := fun u => (World.cell?_of_block (Below.heap_setCell _ _ _ _ (show wr.heap.size ≠ w1.heap.size by omega))).trans q0
            have q1 : w6.cell? ⟨wr.heap.size, 1, none⟩ = some (.int .i64 x.perm) := (World.cell?_of_block (w := w5.alloc (.cells #[.int .u64 (x.base : Int), .int .i64 x.perm, .slice (some ⟨Wp.heap.size, 0, none⟩) x.data.length cap5] 54)) hp6).trans (l1 _)
            have r1 : ∀ u, (w6.setCell ⟨w1.heap.size, 39, none⟩ u).cell? ⟨wr.heap.size, 1, none⟩ = some (.int .i64 x.perm) := fun u => (World.cell?_of_block (Below.heap_setCell _ _ _ _ (show wr.heap.size ≠ w1.heap.size by omega))).trans q1
            have q2 : w6.cell? ⟨wr.heap.size, 2, none⟩ = some (.slice x.A x.data.length x.cap) := (World.cell?_of_block (w := w5.alloc (.cells #[.int .u64 (x.base : Int), .int .i64 x.perm, .slice (some ⟨Wp.heap.size, 0, none⟩) x.data.length cap5] 54)) hp6).trans (l2 _)
            have r2 : ∀ u, (w6.setCell ⟨w1.heap.size, 39, none⟩ u).cell? ⟨wr.heap.size, 2, none⟩ = some (.slice x.A x.data.length x.cap) := fun u => (World.cell?_of_block (Below.heap_setCell _ _ _ _ (show wr.heap.size ≠ w1.heap.size by omega))).trans q2
            have f39 := obj_frozen hm6 39
            refine hK.out _ _ ⟨q0, q1, q2⟩ (fun hS => ?_)
            clear hK K
            try simp only [Act.put, List.setIfInBounds_toArray, List.set_cons_zero, List.set_cons_succ]
            refine wpAnyH_take (i := 16) (oi := ⟨some 111, _, _, _, _, _⟩) (v := .pointer (some ⟨w1.heap.size, 0, none⟩)) rfl (by kernel_rfl) (by kernel_rfl) (by kernel_rfl) (fun _ _ _ h => h) (Or.inl ⟨by rfl, fun w' hS' => by go_simp⟩) hS ?_
            try simp only [Act.put, List.setIfInBounds_toArray, List.set_cons_zero, List.set_cons_succ]
            refine wpAnyH_take (i := 17) (oi := ⟨some 112, _, _, _, _, _⟩) (v := .pointer (some ⟨w1.heap.size, 39, none⟩)) rfl (by kernel_rfl) (by kernel_rfl) (by kernel_rfl) (fun _ _ _ h => h) (Or.inl ⟨by rfl, fun w' hS' => by go_simp⟩) hS ?_
            try simp only [Act.put, List.setIfInBounds_toArray, List.set_cons_zero, List.set_cons_succ]
            refine wpAnyH_ready (rs := [18]) (by kernel_rfl) (by simp) ?_
            refine AllReadyH.cons (o := ⟨none, _, _, _, _, _⟩) rfl (fun K hK => ?_) AllReadyH.nil
            go_simp
            refine hK.out _ _ ⟨r0 _, r1 _, r2 _⟩ (fun hS => ?_)
            clear hK K
            try simp only [Act.put, List.setIfInBounds_toArray, List.set_cons_zero, List.set_cons_succ]
            refine wpAnyH_done (by kernel_rfl) ?_ _
            go_wp2_with fail
            go_roundw
            case rel => exact ⟨k + 1, _, _, by omega, by go_num, hn6⟩
            case measure => simp [intOf]; omega
      · have td : decide ((k : Int) < (ps.length : Int)) = false := decide_eq_false (by omega)
        obtain rfl : k = ps.length := by omega
        obtain ⟨PA', pc', hmade⟩ := HMd.out _ _ _ hL
        have hn : newE c ps inp.length = 0 := by unfold newE; rw [HH.out.2.2.2.2.2.2.2.2]; exact H0.out
        have HE := Lib.hid (And.intro hn hmade)
        clear hn hmade hL
        go_wp2_with fail
        go_ret2
        exact ⟨hBr, .inr ⟨HE.out.1, HH.out.2.2.2.2.2.2.2.2, H0.out, _, _, _, _, _, _, rfl, HE.out.2⟩⟩
end Go.Proofs
