/- patinalaw10.RtImages: the walk. -/
import Derived.Test.YtlhenglopnipaaaGreatDoorRtRS
namespace Go.Proofs
open Go Go.RowKit Go.Pat
theorem code_cells {w W : World} {x y z : Value} (h : W.heap[w.heap.size]? = some (.cells #[x, y, z] 53 (0, 0))) : W.cell? ⟨w.heap.size, 0, none⟩ = some x ∧ W.cell? ⟨w.heap.size, 1, none⟩ = some y ∧ W.cell? ⟨w.heap.size, 2, none⟩ = some z :=
  ⟨obj_cell h 0, obj_cell h 1, obj_cell h 2⟩
theorem seg_facts {w : World} {A : Option Addr} {ss : List Sg} (h : SgsAt w.heap.size w A ss) (i : Nat) (hi : i < ss.length) (x : Sgd) (hx : (ss.map Sg.d)[i]? = some x) :
    ∃ b o Ai ci, A = some ⟨b, o, none⟩ ∧ b < w.heap.size ∧ w.cell? ⟨b, o + i * 4, none⟩ = some (.int .u64 (x.addr : Int)) ∧ w.cell? ⟨b, o + i * 4 + 1, none⟩ = some (.int .i64 x.perm) ∧
      w.cell? ⟨b, o + i * 4 + 2, none⟩ = some (.slice Ai x.data.length ci) ∧ w.cell? ⟨b, o + i * 4 + 3, none⟩ = some (.int .u64 (x.size : Int)) ∧ Bs w.heap.size w Ai x.data := by
  obtain ⟨b, o, e, hb, q0, q1, q2, q3⟩ := h.cells i hi
  rw [List.getElem?_map, List.getElem?_eq_getElem hi] at hx
  obtain rfl := Option.some.inj hx
  exact ⟨b, o, ss[i].A, ss[i].cap, e, hb, q0, q1, q2, q3, h.bytes _ (List.getElem_mem _)⟩
theorem same_bytes (W : World) (A1 A2 : Option Addr) (c1 c2 B1 B2 : Nat) (l : List UInt8) (h1 : Bs B1 W A1 l) (h2 : Bs B2 W A2 l) : Calls Tryz.prog 23 #[.slice A1 l.length c1, .slice A2 l.length c2] W fun e w' => e = .returned (.bool true) ∧ W = w' := by
  have h := pBytes_any W A1 A2 l.length l.length c1 c2 B1 B2 l l h1 h2 rfl rfl
  rw [show (l == l) = true by simp] at h
  exact h
theorem img_bad {t d : List UInt8} {ls : List Lab} (h : imgB t d ls = true) : (findM ls nmStart).2 = false ∨ ((findM ls nmStart).2 = true ∧ (t.length = 0 ∨ (t.length ≠ 0 ∧ (16711680 < t.length ∨ (¬ 16711680 < t.length ∧ 16777216 < d.length))))) := by
  rcases ixL_find ls nmStart 0 with ⟨h1, h2⟩ | ⟨k, hk, h1, h2⟩
  · exact .inl h2
  · refine .inr ⟨by rw [h2], ?_⟩
    unfold imgB at h
    rw [h1] at h
    simp only [Bool.or_eq_true, decide_eq_true_eq] at h
    omega
theorem img_fine {t d : List UInt8} {ls : List Lab} (h : imgB t d ls = false) : (findM ls nmStart).2 = true ∧ t.length ≠ 0 ∧ ¬ 16711680 < t.length ∧ ¬ 16777216 < d.length := by
  unfold imgB at h
  simp only [Bool.or_eq_false_iff, decide_eq_false_iff_not] at h
  rcases ixL_find ls nmStart 0 with ⟨h1, h2⟩ | ⟨k, hk, h1, h2⟩
  · rw [h1] at h; omega
  · exact ⟨by rw [h2], h.2.1, h.2.2.1, h.2.2.2⟩
set_option maxRecDepth 20000 in
set_option maxHeartbeats 32000000 in
theorem RtImages_bad (w : World) (TA DA LA : Option Addr) (tc dc lc : Nat) (t d : List UInt8) (ls : List Lab) (hT : Bs w.heap.size w TA t) (hD : Bs w.heap.size w DA d) (hL : Cs w.heap.size w LA (lcells ls)) (hll : ls.length ≤ 9223372036854775807)
    (htl : t.length ≤ 140737488355328) (hdl : d.length ≤ 140737488355328) (htz : TzTab w) (hrv : RvRows w) (hbad : imgB t d ls = true) :
    Calls Tryz.prog 8 #[.agg #[.slice TA t.length tc, .slice DA d.length dc, .slice LA ls.length lc]] w fun e w' => e = .returned (.bool true) ∧ Below w.heap.size w w' := by
  have HS := Lib.hid (fun (w1 : World) (h : Below w.heap.size w w1) => speaks10_any w1 (htz.below h) (hrv.below h))
  obtain ⟨W0, hW0⟩ : ∃ W : World, W = w.alloc (.cells #[.slice TA t.length tc, .slice DA d.length dc, .slice LA ls.length lc] 53) := ⟨_, rfl⟩
  have h0 : W0.heap[w.heap.size]? = some (.cells #[.slice TA t.length tc, .slice DA d.length dc, .slice LA ls.length lc] 53 (0, 0)) := by rw [hW0]; exact heap_alloc_new w _
  have hB0 : Below w.heap.size w W0 := by rw [hW0]; exact (Below.refl _ _).alloc (Nat.le_refl _) _
  have hs0 : w.heap.size < W0.heap.size := lt_of_block h0
  have HI := Lib.hid (rtImage_any W0 TA DA LA tc dc lc t d ls ((hT.below hB0).mono hB0.size) ((hD.below hB0).mono hB0.size) ((hL.below hB0).more hB0.size) hll)
  have HL := Lib.hid (And.intro hL (And.intro h0 hB0))
  have HB := Lib.hid (And.intro hbad (img_bad hbad))
  obtain ⟨x0, x1, x2⟩ := code_cells h0
  have HW := Lib.hid hW0
  clear hW0 h0 hB0 hT hD hL htz hrv hbad
  go_enter Tryz.func8, Tryz.ntmps8
  go_upto_region 1 with fail
  rw [← HW.out]
  go_wp2_with fail
  refine Calls.mono HI.out ?_
  rintro e w1 ⟨hB1, hi⟩
  rcases hi with ⟨-, rfl⟩ | ⟨hb, -⟩
  rotate_left
  · rw [HB.out.1] at hb; cases hb
  have h1 := (hB1.block w.heap.size hs0).trans HL.out.2.1
  have hBw1 : Below w.heap.size w w1 := HL.out.2.2.trans (hB1.mono HL.out.2.2.size)
  have hs1 := lt_of_block h1
  have y := fun o => code_cells (W := w1.alloc o) ((Below.heap_alloc w1 o w.heap.size hs1).trans h1)
  have y0 := fun o => (y o).1
  have y1 := fun o => (y o).2.1
  have y2 := fun o => (y o).2.2
  have hB1a := fun o : Obj => hBw1.alloc hBw1.size o
  have HF := Lib.hid (fun o : Obj => aFind_any (w1.alloc o) (.slice TA t.length tc) (.slice DA d.length dc) LA ls.length lc ls nmStart ((HL.out.1.below (hB1a o)).more (hB1a o).size) rfl hll)
  have HH := Lib.hid (And.intro h1 hB1a)
  clear y x0 x1 x2 h1 hB1 hB1a
  go_wp2_with fail
  refine Calls.mono (HF.out _) ?_
  rintro e w2 ⟨rfl, hB2⟩
  have hz1 : w1.heap.size < (w1.alloc (.cells #[.int .u64 0, .slice none 0 0] 59)).heap.size := by rw [World.size_alloc]; omega
  have h2 := (hB2.block w.heap.size (Nat.lt_trans hs1 hz1)).trans ((Below.heap_alloc w1 (.cells #[.int .u64 0, .slice none 0 0] 59) w.heap.size hs1).trans HH.out.1)
  have h3 := (hB2.block w1.heap.size hz1).trans (heap_alloc_new w1 _)
  obtain ⟨z0, z1, -⟩ := code_cells h2
  have v1 : w2.cell? ⟨w1.heap.size, 1, none⟩ = some (.slice none 0 0) := obj_cell h3 1
  have hs2 := lt_of_block h2
  have hs3 := lt_of_block h3
  have hBw2 : Below w.heap.size w w2 := (HH.out.2 _).trans (hB2.mono (HH.out.2 _).size)
  have hbb := HB.out.2
  have HB2 := Lib.hid hBw2
  generalize (findM ls nmStart).1 = st
  generalize (findM ls nmStart).2 = ok at *
  clear h2 h3 hB2 y0 y1 y2 hBw2 hz1
  rcases hbb with rfl | ⟨rfl, b1 | ⟨b1, b2 | ⟨b2, b3⟩⟩⟩
  · go_wp2_with (go_at_call 9; refine Calls.mono (HS.out _ HB2.out) ?_
                 rintro e w10 ⟨rfl, hB10⟩
                 have hBw10 := HB2.out.trans (hB10.mono HB2.out.size)
                 clear hB10)
    go_ret
    exact ⟨rfl, hBw10⟩
  · have c1 : ((t.length : Int) == 0) = true := by simp only [beq_iff_eq]; omega
    go_wp2_with (go_at_call 9; refine Calls.mono (HS.out _ HB2.out) ?_
                 rintro e w10 ⟨rfl, hB10⟩
                 have hBw10 := HB2.out.trans (hB10.mono HB2.out.size)
                 clear hB10)
    go_ret
    exact ⟨rfl, hBw10⟩
  · have c1 : ((t.length : Int) == 0) = false := by simp only [beq_eq_false_iff_ne]; omega
    have c2 : decide ((16711680 : Int) < (t.length : Int)) = true := decide_eq_true (by omega)
    go_wp2_with (go_at_call 9; refine Calls.mono (HS.out _ HB2.out) ?_
                 rintro e w10 ⟨rfl, hB10⟩
                 have hBw10 := HB2.out.trans (hB10.mono HB2.out.size)
                 clear hB10)
    go_ret
    exact ⟨rfl, hBw10⟩
  · have c1 : ((t.length : Int) == 0) = false := by simp only [beq_eq_false_iff_ne]; omega
    have c2 : decide ((16711680 : Int) < (t.length : Int)) = false := decide_eq_false (by omega)
    have c3 : decide ((16777216 : Int) < (d.length : Int)) = true := decide_eq_true (by omega)
    go_wp2_with (go_at_call 9; refine Calls.mono (HS.out _ HB2.out) ?_
                 rintro e w10 ⟨rfl, hB10⟩
                 have hBw10 := HB2.out.trans (hB10.mono HB2.out.size)
                 clear hB10)
    go_ret
    exact ⟨rfl, hBw10⟩
set_option maxRecDepth 20000 in
set_option maxHeartbeats 64000000 in
theorem RtImages_three (w : World) (TA DA LA : Option Addr) (tc dc lc : Nat) (t d : List UInt8) (ls : List Lab) (hT : Bs w.heap.size w TA t) (hD : Bs w.heap.size w DA d) (hL : Cs w.heap.size w LA (lcells ls)) (hll : ls.length ≤ 9223372036854775807)
    (htl : t.length ≤ 140737488355328) (hdl : d.length ≤ 140737488355328) (htz : TzTab w) (hrv : RvRows w) (hgood : imgB t d ls = false) (hd0 : d.length ≠ 0) :
    Calls Tryz.prog 8 #[.agg #[.slice TA t.length tc, .slice DA d.length dc, .slice LA ls.length lc]] w fun e w' => e = .returned (.bool true) ∧ Below w.heap.size w w' := by
  have HS := Lib.hid (fun (w1 : World) (h : Below w.heap.size w w1) => speaks10_any w1 (htz.below h) (hrv.below h))
  obtain ⟨W0, hW0⟩ : ∃ W : World, W = w.alloc (.cells #[.slice TA t.length tc, .slice DA d.length dc, .slice LA ls.length lc] 53) := ⟨_, rfl⟩
  have h0 : W0.heap[w.heap.size]? = some (.cells #[.slice TA t.length tc, .slice DA d.length dc, .slice LA ls.length lc] 53 (0, 0)) := by rw [hW0]; exact heap_alloc_new w _
  have hB0 : Below w.heap.size w W0 := by rw [hW0]; exact (Below.refl _ _).alloc (Nat.le_refl _) _
  have hs0 : w.heap.size < W0.heap.size := lt_of_block h0
  have HI := Lib.hid (rtImage_any W0 TA DA LA tc dc lc t d ls ((hT.below hB0).mono hB0.size) ((hD.below hB0).mono hB0.size) ((hL.below hB0).more hB0.size) hll)
  have HL := Lib.hid (And.intro hL (And.intro h0 (And.intro hB0 (And.intro hT hD))))
  have HB := Lib.hid (And.intro hgood (And.intro (img_fine hgood) hd0))
  obtain ⟨x0, x1, x2⟩ := code_cells h0
  have HW := Lib.hid hW0
  clear hW0 h0 hB0 hT hD hL htz hrv hgood hd0
  go_enter Tryz.func8, Tryz.ntmps8
  go_upto_region 1 with fail
  rw [← HW.out]
  go_wp2_with fail
  refine Calls.mono HI.out ?_
  rintro e w1 ⟨hB1, hi⟩
  rcases hi with ⟨hb, -⟩ | ⟨-, vs, ss, rfl, hO1, hss⟩
  · rw [HB.out.1] at hb; cases hb
  have h1 := (hB1.block w.heap.size hs0).trans HL.out.2.1
  have hBw1 : Below w.heap.size w w1 := HL.out.2.2.1.trans (hB1.mono HL.out.2.2.1.size)
  have hs1 := lt_of_block h1
  have hsl : ss.length = 3 := by
    have := congrArg List.length hss
    rw [List.length_map] at this
    rw [this]
    unfold imgL
    rw [if_neg HB.out.2.2]
    rfl
  obtain ⟨As, cs, rfl, hS1⟩ := hO1.sgs (by omega)
  rw [hsl]
  have y := fun o => code_cells (W := w1.alloc o) ((Below.heap_alloc w1 o w.heap.size hs1).trans h1)
  have y0 := fun o => (y o).1
  have y1 := fun o => (y o).2.1
  have y2 := fun o => (y o).2.2
  have hB1a := fun o : Obj => hBw1.alloc hBw1.size o
  have HF := Lib.hid (fun o : Obj => aFind_any (w1.alloc o) (.slice TA t.length tc) (.slice DA d.length dc) LA ls.length lc ls nmStart ((HL.out.1.below (hB1a o)).more (hB1a o).size) rfl hll)
  have HH := Lib.hid (And.intro h1 (And.intro hB1a (And.intro hss (And.intro hsl hS1))))
  obtain ⟨st, hst⟩ : ∃ st, st = (findM ls nmStart).1 := ⟨_, rfl⟩
  have hok := HB.out.2.1.1
  rw [← hst]
  have HST := Lib.hid (And.intro hst hok)
  clear y x0 x1 x2 h1 hB1 hB1a hss hsl hS1 hO1 hst hok
  go_wp2_with fail
  refine Calls.mono (HF.out _) ?_
  rintro e w2 ⟨rfl, hB2⟩
  rw [← HST.out.1, HST.out.2]
  have hz1 : w1.heap.size < (w1.alloc (.cells #[.int .u64 (st : Int), .slice As 3 cs] 59)).heap.size := by rw [World.size_alloc]; omega
  have h2 := (hB2.block w.heap.size (Nat.lt_trans hs1 hz1)).trans ((Below.heap_alloc w1 (.cells #[.int .u64 (st : Int), .slice As 3 cs] 59) w.heap.size hs1).trans HH.out.1)
  have h3 := (hB2.block w1.heap.size hz1).trans (heap_alloc_new w1 _)
  have hBw2 : Below w.heap.size w w2 := (HH.out.2.1 _).trans (hB2.mono (HH.out.2.1 _).size)
  have hS2 : SgsAt w2.heap.size w2 As ss := (HH.out.2.2.2.2.below (((Below.refl _ _).alloc (Nat.le_refl _) _).trans (hB2.mono (by rw [World.size_alloc]; omega)))).mono (by have := hB2.size; omega)
  obtain ⟨z0, z1, -⟩ := code_cells h2
  have v0 : w2.cell? ⟨w1.heap.size, 0, none⟩ = some (.int .u64 (st : Int)) := obj_cell h3 0
  have v1 : w2.cell? ⟨w1.heap.size, 1, none⟩ = some (.slice As 3 cs) := obj_cell h3 1
  have hs2 := lt_of_block h2
  have hs3 := lt_of_block h3
  obtain ⟨g1, g2, g3⟩ := HB.out.2.1.2
  have c1 : ((t.length : Int) == 0) = false := by simp only [beq_eq_false_iff_ne]; omega
  have c2 : decide ((16711680 : Int) < (t.length : Int)) = false := decide_eq_false (by omega)
  have c3 : decide ((16777216 : Int) < (d.length : Int)) = false := decide_eq_false (by omega)
  have c4 : ((d.length : Int) == 0) = false := by have := HB.out.2.2; simp only [beq_eq_false_iff_ne]; omega
  have HB2 := Lib.hid (And.intro hBw2 hS2)
  clear h2 h3 hB2 y0 y1 y2 hBw2 hz1 hS2 g1 g2 g3
  go_upto_region 8 with fail
  have e0 : (ss.map Sg.d)[0]? = some ⟨65536, 5, t, t.length⟩ := by rw [HH.out.2.2.1]; unfold imgL; rw [if_neg HB.out.2.2]; rfl
  have e1 : (ss.map Sg.d)[1]? = some ⟨16777216, 6, d, d.length⟩ := by rw [HH.out.2.2.1]; unfold imgL; rw [if_neg HB.out.2.2]; rfl
  have e2 : (ss.map Sg.d)[2]? = some ⟨33554432, 6, [], 262144⟩ := by rw [HH.out.2.2.1]; unfold imgL; rw [if_neg HB.out.2.2]; rfl
  obtain ⟨b, o, A0, k0, rfl, hb, p0, p1, p2, p3, hb0⟩ := seg_facts HB2.out.2 0 (by rw [HH.out.2.2.2.1]; decide) _ e0
  obtain ⟨b', o', A1, k1, ea, -, q0, q1, q2, q3, hb1⟩ := seg_facts HB2.out.2 1 (by rw [HH.out.2.2.2.1]; decide) _ e1
  cases ea
  obtain ⟨b', o', A2, k2, ea, -, r0, r1, r2, r3, -⟩ := seg_facts HB2.out.2 2 (by rw [HH.out.2.2.2.1]; decide) _ e2
  cases ea
  simp only [Nat.zero_mul, Nat.add_zero, Nat.one_mul, Nat.reduceMul, Nat.add_assoc, Nat.reduceAdd] at p0 p1 p2 p3 q0 q1 q2 q3 r0 r1 r2 r3
  have HP := Lib.hid (fun (W : World) (hW : Below w2.heap.size w2 W) => same_bytes W A0 TA k0 tc _ _ t (hb0.below hW) ((HL.out.2.2.2.1.below HB2.out.1).below (hW.mono HB2.out.1.size)))
  have HP2 := Lib.hid (fun (W : World) (hW : Below w2.heap.size w2 W) => same_bytes W A1 DA k1 dc _ _ d (hb1.below hW) ((HL.out.2.2.2.2.below HB2.out.1).below (hW.mono HB2.out.1.size)))
  clear e0 e1 e2 hb0 hb1
  have hA1 := fun o => (Below.refl w2.heap.size w2).alloc (Nat.le_refl _) o
  have hA2 := fun o o2 => (hA1 o).alloc (hA1 o).size o2
  have hA3 := fun o o2 o3 => (hA2 o o2).alloc (hA2 o o2).size o3
  have v1c := fun o o2 o3 => (((hA3 o o2 o3).cell (p := ⟨w1.heap.size, 1, none⟩) hs3).trans v1)
  have z1c := fun o o2 o3 => (((hA3 o o2 o3).cell (p := ⟨w.heap.size, 1, none⟩) hs2).trans z1)
  have HA2 := Lib.hid hA2
  have HA3 := Lib.hid hA3
  clear hA1 hA2 hA3
  go_upto_region 11 with (go_at_call 23; refine Calls.mono (HP.out _ (HA2.out _ _)) ?_; rintro e w5 ⟨rfl, rfl⟩)
  go_wp2_with (first
    | (go_at_call 23; refine Calls.mono (HP2.out _ (HA3.out _ _ _)) ?_; rintro e w5 ⟨rfl, rfl⟩)
    | (go_at_call 9; refine Calls.mono (HS.out _ (HB2.out.1.trans ((HA3.out _ _ _).mono HB2.out.1.size))) ?_
       rintro e w10 ⟨rfl, hB10⟩
       have hBw10 := (HB2.out.1.trans ((HA3.out _ _ _).mono HB2.out.1.size)).trans (hB10.mono (HB2.out.1.trans ((HA3.out _ _ _).mono HB2.out.1.size)).size)
       clear hB10))
  go_ret
  exact ⟨rfl, hBw10⟩
set_option maxRecDepth 20000 in
set_option maxHeartbeats 64000000 in
theorem RtImages_two (w : World) (TA DA LA : Option Addr) (tc dc lc : Nat) (t d : List UInt8) (ls : List Lab) (hT : Bs w.heap.size w TA t) (hD : Bs w.heap.size w DA d) (hL : Cs w.heap.size w LA (lcells ls)) (hll : ls.length ≤ 9223372036854775807)
    (htl : t.length ≤ 140737488355328) (hdl : d.length ≤ 140737488355328) (htz : TzTab w) (hrv : RvRows w) (hgood : imgB t d ls = false) (hd0 : d.length = 0) :
    Calls Tryz.prog 8 #[.agg #[.slice TA t.length tc, .slice DA d.length dc, .slice LA ls.length lc]] w fun e w' => e = .returned (.bool true) ∧ Below w.heap.size w w' := by
  have HS := Lib.hid (fun (w1 : World) (h : Below w.heap.size w w1) => speaks10_any w1 (htz.below h) (hrv.below h))
  obtain ⟨W0, hW0⟩ : ∃ W : World, W = w.alloc (.cells #[.slice TA t.length tc, .slice DA d.length dc, .slice LA ls.length lc] 53) := ⟨_, rfl⟩
  have h0 : W0.heap[w.heap.size]? = some (.cells #[.slice TA t.length tc, .slice DA d.length dc, .slice LA ls.length lc] 53 (0, 0)) := by rw [hW0]; exact heap_alloc_new w _
  have hB0 : Below w.heap.size w W0 := by rw [hW0]; exact (Below.refl _ _).alloc (Nat.le_refl _) _
  have hs0 : w.heap.size < W0.heap.size := lt_of_block h0
  have HI := Lib.hid (rtImage_any W0 TA DA LA tc dc lc t d ls ((hT.below hB0).mono hB0.size) ((hD.below hB0).mono hB0.size) ((hL.below hB0).more hB0.size) hll)
  have HL := Lib.hid (And.intro hL (And.intro h0 (And.intro hB0 (And.intro hT hD))))
  have HB := Lib.hid (And.intro hgood (And.intro (img_fine hgood) hd0))
  obtain ⟨x0, x1, x2⟩ := code_cells h0
  have HW := Lib.hid hW0
  clear hW0 h0 hB0 hT hD hL htz hrv hgood hd0
  go_enter Tryz.func8, Tryz.ntmps8
  go_upto_region 1 with fail
  rw [← HW.out]
  go_wp2_with fail
  refine Calls.mono HI.out ?_
  rintro e w1 ⟨hB1, hi⟩
  rcases hi with ⟨hb, -⟩ | ⟨-, vs, ss, rfl, hO1, hss⟩
  · rw [HB.out.1] at hb; cases hb
  have h1 := (hB1.block w.heap.size hs0).trans HL.out.2.1
  have hBw1 : Below w.heap.size w w1 := HL.out.2.2.1.trans (hB1.mono HL.out.2.2.1.size)
  have hs1 := lt_of_block h1
  have hsl : ss.length = 2 := by
    have := congrArg List.length hss
    rw [List.length_map] at this
    rw [this]
    unfold imgL
    rw [if_pos HB.out.2.2]
    rfl
  obtain ⟨As, cs, rfl, hS1⟩ := hO1.sgs (by omega)
  rw [hsl]
  have y := fun o => code_cells (W := w1.alloc o) ((Below.heap_alloc w1 o w.heap.size hs1).trans h1)
  have y0 := fun o => (y o).1
  have y1 := fun o => (y o).2.1
  have y2 := fun o => (y o).2.2
  have hB1a := fun o : Obj => hBw1.alloc hBw1.size o
  have HF := Lib.hid (fun o : Obj => aFind_any (w1.alloc o) (.slice TA t.length tc) (.slice DA d.length dc) LA ls.length lc ls nmStart ((HL.out.1.below (hB1a o)).more (hB1a o).size) rfl hll)
  have HH := Lib.hid (And.intro h1 (And.intro hB1a (And.intro hss (And.intro hsl hS1))))
  obtain ⟨st, hst⟩ : ∃ st, st = (findM ls nmStart).1 := ⟨_, rfl⟩
  have hok := HB.out.2.1.1
  rw [← hst]
  have HST := Lib.hid (And.intro hst hok)
  clear y x0 x1 x2 h1 hB1 hB1a hss hsl hS1 hO1 hst hok
  go_wp2_with fail
  refine Calls.mono (HF.out _) ?_
  rintro e w2 ⟨rfl, hB2⟩
  rw [← HST.out.1, HST.out.2]
  have hz1 : w1.heap.size < (w1.alloc (.cells #[.int .u64 (st : Int), .slice As 2 cs] 59)).heap.size := by rw [World.size_alloc]; omega
  have h2 := (hB2.block w.heap.size (Nat.lt_trans hs1 hz1)).trans ((Below.heap_alloc w1 (.cells #[.int .u64 (st : Int), .slice As 2 cs] 59) w.heap.size hs1).trans HH.out.1)
  have h3 := (hB2.block w1.heap.size hz1).trans (heap_alloc_new w1 _)
  have hBw2 : Below w.heap.size w w2 := (HH.out.2.1 _).trans (hB2.mono (HH.out.2.1 _).size)
  have hS2 : SgsAt w2.heap.size w2 As ss := (HH.out.2.2.2.2.below (((Below.refl _ _).alloc (Nat.le_refl _) _).trans (hB2.mono (by rw [World.size_alloc]; omega)))).mono (by have := hB2.size; omega)
  obtain ⟨z0, z1, -⟩ := code_cells h2
  have v0 : w2.cell? ⟨w1.heap.size, 0, none⟩ = some (.int .u64 (st : Int)) := obj_cell h3 0
  have v1 : w2.cell? ⟨w1.heap.size, 1, none⟩ = some (.slice As 2 cs) := obj_cell h3 1
  have hs2 := lt_of_block h2
  have hs3 := lt_of_block h3
  obtain ⟨g1, g2, g3⟩ := HB.out.2.1.2
  have c1 : ((t.length : Int) == 0) = false := by simp only [beq_eq_false_iff_ne]; omega
  have c2 : decide ((16711680 : Int) < (t.length : Int)) = false := decide_eq_false (by omega)
  have c3 : decide ((16777216 : Int) < (d.length : Int)) = false := decide_eq_false (by omega)
  have c4 : ((d.length : Int) == 0) = true := by have := HB.out.2.2; simp only [beq_iff_eq]; omega
  have HB2 := Lib.hid (And.intro hBw2 hS2)
  clear h2 h3 hB2 y0 y1 y2 hBw2 hz1 hS2 g1 g2 g3
  go_upto_region 8 with fail
  have e0 : (ss.map Sg.d)[0]? = some ⟨65536, 5, t, t.length⟩ := by rw [HH.out.2.2.1]; unfold imgL; rw [if_pos HB.out.2.2]; rfl
  have e1 : (ss.map Sg.d)[1]? = some ⟨33554432, 6, [], 262144⟩ := by rw [HH.out.2.2.1]; unfold imgL; rw [if_pos HB.out.2.2]; rfl
  obtain ⟨b, o, A0, k0, rfl, hb, p0, p1, p2, p3, hb0⟩ := seg_facts HB2.out.2 0 (by rw [HH.out.2.2.2.1]; decide) _ e0
  obtain ⟨b', o', A1, k1, ea, -, q0, q1, q2, q3, -⟩ := seg_facts HB2.out.2 1 (by rw [HH.out.2.2.2.1]; decide) _ e1
  cases ea
  simp only [Nat.zero_mul, Nat.add_zero, Nat.one_mul, Nat.add_assoc, Nat.reduceAdd] at p0 p1 p2 p3 q0 q1 q2 q3
  have HP := Lib.hid (fun (W : World) (hW : Below w2.heap.size w2 W) => same_bytes W A0 TA k0 tc _ _ t (hb0.below hW) ((HL.out.2.2.2.1.below HB2.out.1).below (hW.mono HB2.out.1.size)))
  clear e0 e1 hb0
  have hA1 := fun o => (Below.refl w2.heap.size w2).alloc (Nat.le_refl _) o
  have hA2 := fun o o2 => (hA1 o).alloc (hA1 o).size o2
  have HA2 := Lib.hid hA2
  clear hA1 hA2
  go_upto_region 11 with (go_at_call 23; refine Calls.mono (HP.out _ (HA2.out _ _)) ?_; rintro e w5 ⟨rfl, rfl⟩)
  go_wp2_with (go_at_call 9; refine Calls.mono (HS.out _ (HB2.out.1.trans ((HA2.out _ _).mono HB2.out.1.size))) ?_
               rintro e w10 ⟨rfl, hB10⟩
               have hBw10 := (HB2.out.1.trans ((HA2.out _ _).mono HB2.out.1.size)).trans (hB10.mono (HB2.out.1.trans ((HA2.out _ _).mono HB2.out.1.size)).size)
               clear hB10)
  go_ret
  exact ⟨rfl, hBw10⟩
theorem RtImages_any (w : World) (TA DA LA : Option Addr) (tc dc lc : Nat) (t d : List UInt8) (ls : List Lab) (hT : Bs w.heap.size w TA t) (hD : Bs w.heap.size w DA d) (hL : Cs w.heap.size w LA (lcells ls)) (hll : ls.length ≤ 9223372036854775807)
    (htl : t.length ≤ 140737488355328) (hdl : d.length ≤ 140737488355328) (htz : TzTab w) (hrv : RvRows w) :
    Calls Tryz.prog 8 #[.agg #[.slice TA t.length tc, .slice DA d.length dc, .slice LA ls.length lc]] w fun e w' => e = .returned (.bool true) ∧ Below w.heap.size w w' := by
  cases hb : imgB t d ls with
  | true => exact RtImages_bad w TA DA LA tc dc lc t d ls hT hD hL hll htl hdl htz hrv hb
  | false =>
    by_cases h0 : d.length = 0
    · exact RtImages_two w TA DA LA tc dc lc t d ls hT hD hL hll htl hdl htz hrv hb h0
    · exact RtImages_three w TA DA LA tc dc lc t d ls hT hD hL hll htl hdl htz hrv hb h0
end Go.Proofs
