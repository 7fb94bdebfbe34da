/- patinalaw03.CpuParts: the walk, of numbers that are small. -/
import Derived.Test.YtemngapfnkokiaaDoorPartsB
import Derived.Test.YtemngapfnkokiaaDoorPagesM
namespace Go.Proofs
open Go Go.RowKit Go.Pat
section
variable {w : World} {b : Nat} {c : Mc} {OA PA IA : Option Addr} {oc pc ic np ni : Nat} {N : Int}
theorem case_range (h : w.heap[b]? = some (.cells (caseC c OA PA IA oc pc ic np ni N).toArray 83 (0, 0))) : w.rangeAt b 0 (c.cells (.slice OA c.out.length oc)) := fun j v hv => by
  refine (obj_cell h (0 + j)).trans ?_
  rw [Nat.zero_add, List.getElem?_toArray, caseC, List.getElem?_append_left]
  · exact hv
  · rcases Nat.lt_or_ge j (c.cells (.slice OA c.out.length oc)).length with h | h
    · exact h
    · rw [List.getElem?_eq_none h] at hv; cases hv
theorem case_tail (hl : c.regs.length = 32) (h : w.heap[b]? = some (.cells (caseC c OA PA IA oc pc ic np ni N).toArray 83 (0, 0))) (i : Nat) : w.cell? ⟨b, 39 + i, none⟩ = [Value.slice PA np pc, .slice IA ni ic, .int .i64 N][i]? := by
  rw [obj_cell h (39 + i), List.getElem?_toArray, caseC, List.getElem?_append_right (by rw [ccells_len hl]; omega), ccells_len hl, Nat.add_sub_cancel_left]
end
set_option maxRecDepth 20000 in
set_option maxHeartbeats 64000000 in
theorem CpuParts_in (w : World) (c : Mc) (OA PA IA : Option Addr) (oc pc ic : Nat) (ps : List PgIn) (inp : List UInt8) (n k : Nat) (hn : n ≤ 5000) (hk : k ≤ 5000) (hl : c.regs.length = 32) (hsm : ∀ i, c.reg i < 18446744073709551616) (hpc : c.pc < 18446744073709551616)
    (hO : Bs w.heap.size w OA c.out) (hol : c.out.length ≤ 140737488345328) (hP : PgsAt w.heap.size w PA ps) (hI : Bs w.heap.size w IA inp) (hil : inp.length ≤ 140737488355328) (hR : RvRows w) :
    Calls Tryd.prog 9 #[.agg (caseC c OA PA IA oc pc ic ps.length inp.length (n : Int)).toArray, .int .i64 (k : Int)] w fun e w' => e = .returned (.bool true) ∧ Below w.heap.size w w' := by
  obtain ⟨cs, hcs⟩ : ∃ cs, cs = (caseC c OA PA IA oc pc ic ps.length inp.length (n : Int)).toArray := ⟨_, rfl⟩
  obtain ⟨W, hW⟩ : ∃ W : World, W = w.alloc (.cells cs 83) := ⟨_, rfl⟩
  have hB : Below w.heap.size w W := by rw [hW]; exact (Below.refl _ _).alloc (Nat.le_refl _) _
  have hWs : w.heap.size < W.heap.size := by rw [hW, World.size_alloc]; omega
  have h1 : W.heap[w.heap.size]? = some (.cells cs 83 (0, 0)) := by rw [hW]; exact heap_alloc_new w _
  have hbox : ∀ w' : World, w'.heap[w.heap.size]? = W.heap[w.heap.size]? → w'.rangeAt w.heap.size 0 (c.cells (.slice OA c.out.length oc)) ∧ w'.cell? ⟨w.heap.size, 39, none⟩ = some (.slice PA ps.length pc) ∧ w'.cell? ⟨w.heap.size, 40, none⟩ = some (.slice IA inp.length ic) ∧ w'.cell? ⟨w.heap.size, 41, none⟩ = some (.int .i64 (n : Int)) := fun w' h => by
    rw [h1, hcs] at h
    exact ⟨case_range h, case_tail hl h 0, case_tail hl h 1, case_tail hl h 2⟩
  have hsz : (Tryd.prog.info? 76).map (·.size) = some (c.cells (.slice OA c.out.length oc)).length := by rw [ccells_len hl]; exact Tryd_sizeCpu2
  have HX := Lib.hid hbox
  have HZ := Lib.hid hsz
  have HW := Lib.hid hW
  have hNew : ∀ w1 : World, Below w.heap.size w w1 → Calls Tryd.prog 34 #[.agg (c.cells (.slice OA c.out.length oc)).toArray, .slice PA ps.length pc, .slice IA inp.length ic] w1 (NewPost w1 c ps inp) := fun w1 hb =>
    New_any3 w1 c OA PA IA oc pc ic ps inp hl hsm hpc ((hO.below hb).mono hb.size) (by omega) (PgsAt.mono (hP.below hb) hb.size) ((hI.below hb).mono hb.size) hil
  have HN := Lib.hid hNew
  have hSm : ∀ w1 : World, Below w.heap.size w w1 → Calls Tryd.prog 27 #[] w1 fun e w' => e = .returned (.bool true) ∧ Below w1.heap.size w1 w' := fun w1 hb => small3_any w1 (rvRows_below hR hb)
  have HS := Lib.hid hSm
  have HRv := Lib.hid hR
  have HL := Lib.hid hl
  rw [← hcs]
  clear hW h1 hcs hR hbox hsz hNew hSm hO hP hI hsm hpc hl
  have q1 : decide ((n : Int) < 0) = false := decide_eq_false (by omega)
  have q2 : decide ((5000 : Int) < (n : Int)) = false := decide_eq_false (by omega)
  have q3 : decide ((k : Int) < 0) = false := decide_eq_false (by omega)
  have q4 : decide ((5000 : Int) < (k : Int)) = false := decide_eq_false (by omega)
  have hx0 := (HX.out W rfl).2
  go_enter Tryd.func9, Tryd.ntmps9
  go_upto_region 1 with fail
  rw [← HW.out]
  obtain ⟨x0, x1, x2⟩ := hx0
  go_wp2_with (refine wpList_load_want (op := ⟨some 31, _, _, _, _, _⟩) rfl 76 (.tmp 30) rfl w.heap.size 0 rfl (c.cells (.slice OA c.out.length oc)) _ (HX.out W rfl).1 Tryd.underlying76 rfl HZ.out ?_)
  refine Calls.mono (HN.out W hB) ?_
  intro e w1 h
  obtain ⟨hB1, h⟩ := h.two
  have hk1 : w1.heap[w.heap.size]? = W.heap[w.heap.size]? := hB1.block _ hWs
  have hB01 : Below w.heap.size w w1 := hB.trans (hB1.mono hB.size)
  have hx1 := HX.out w1 hk1
  have HX1 := Lib.hid hx1.1
  obtain ⟨y0, y1, y2⟩ := hx1.2
  rcases h with ⟨hE, rfl⟩ | ⟨hE, hrt, hfr, mA, pA, mbA, ovA, ivA, fsA, rfl, hA⟩
  · generalize hEe : newE c ps inp.length = E at hE
    have t0 : (E != 0) = true := by simpa using hE
    have t1 : (E == E) = true := by simp
    have HE := Lib.hid hEe
    clear hEe hE
    go_wp2_with (refine wpList_load_want (op := ⟨some 41, _, _, _, _, _⟩) rfl 76 (.tmp 40) rfl w.heap.size 0 rfl (c.cells (.slice OA c.out.length oc)) _ HX1.out Tryd.underlying76 rfl HZ.out ?_)
    refine Calls.mono (HN.out w1 hB01) ?_
    intro e w2 h
    obtain ⟨hB2, h⟩ := h.two
    rw [HE.out] at h
    have hB02 : Below w.heap.size w w2 := hB01.trans (hB2.mono hB01.size)
    rcases h with ⟨-, rfl⟩ | ⟨h0, -⟩
    · go_wp2_with fail
      refine Calls.mono (HS.out w2 hB02) ?_
      rintro e w3 ⟨rfl, hB3⟩
      go_wp2
      go_ret
      exact ⟨rfl, hB02.trans (hB3.mono hB02.size)⟩
    · rw [h0] at t0
      cases t0
  · have HA := Lib.hid hA
    have hAm := hA.at_.lt
    have HF := Lib.hid (And.intro hrt hfr)
    have HE := Lib.hid hE
    clear hA hrt hfr hE
    go_wp2_with (refine wpList_load_want (op := ⟨some 41, _, _, _, _, _⟩) rfl 76 (.tmp 40) rfl w.heap.size 0 rfl (c.cells (.slice OA c.out.length oc)) _ HX1.out Tryd.underlying76 rfl HZ.out ?_)
    refine Calls.mono (HN.out w1 hB01) ?_
    intro e w2 h
    obtain ⟨hB2, h⟩ := h.two
    have hB02 : Below w.heap.size w w2 := hB01.trans (hB2.mono hB01.size)
    rcases h with ⟨h0, -⟩ | ⟨-, -, -, mB, pB, mbB, ovB, ivB, fsB, rfl, hBm⟩
    · exact absurd HE.out h0
    have hW1 : w.heap.size < w1.heap.size := Nat.lt_of_lt_of_le hWs hB1.size
    have hk2 : w2.heap[w.heap.size]? = W.heap[w.heap.size]? := (hB2.block _ hW1).trans hk1
    have hrow := HRv.out.1
    have hs2 := hB2.size
    obtain ⟨⟨r1, sA1⟩, hr1⟩ : ∃ r, r = runM n ⟨c, fsA, inp⟩ := ⟨_, rfl⟩
    obtain ⟨⟨r2, sA2⟩, hr2⟩ : ∃ r, r = runM k sA1 := ⟨_, rfl⟩
    obtain ⟨⟨r3, sB3⟩, hr3⟩ : ∃ r, r = runM (n + k) ⟨c, fsB, inp⟩ := ⟨_, rfl⟩
    have hadd := runM_add n k ⟨c, fsA, inp⟩
    rw [← hr1] at hadd
    simp only at hadd
    rw [← hr2] at hadd
    have hsame := run_same (c := c) (inp := inp) (hBm.pg.trans HA.out.pg.symm) (n + k)
    rw [← hr3, hadd] at hsame
    obtain ⟨hrr, hcc, hpg⟩ := hsame
    simp only at hrr hcc hpg
    have hle1 := runM_le n ⟨c, fsA, inp⟩
    have ho1 := runM_out n ⟨c, fsA, inp⟩
    have hg1 := runM_reg0 n ⟨c, fsA, inp⟩ (rightB_reg0 HF.out.1)
    rw [← hr1] at hle1 ho1 hg1
    have hle2 := runM_le k sA1
    have ho2 := runM_out k sA1
    have hg2 := runM_reg0 k sA1 hg1
    rw [← hr2] at hle2 ho2 hg2
    simp only at hle1 ho1 hg1 hle2 ho2 hg2
    have hlen1 : fsA.length ≤ 4096 := by
      have := from_few HF.out.2
      rw [← HA.out.pg, List.length_map] at this
      exact this
    subst hrr
    have f1 : IntKind.i64.wrap ((r1 : Int) + (r2 : Int)) = ((r1 + r2 : Nat) : Int) := by rw [IntKind.wrap_i64]; omega
    have f2 : IntKind.i64.wrap ((n : Int) + (k : Int)) = ((n + k : Nat) : Int) := by rw [IntKind.wrap_i64]; omega
    -- the first run of the first machine
    have hA2 : MachAt w2 mA pA mbA ovA ivA ⟨c, fsA, inp⟩ := HA.out.at_.below hB2
    have hmA : ∀ j, mine mA fsA ovA j → W.heap.size ≤ j ∧ j < w1.heap.size := fun j hj => ⟨HA.out.ge j (.inl hj), HA.out.at_.usesLt (.inl hj)⟩
    have huA : ∀ j, uses mA pA mbA ovA ivA fsA j → j < w1.heap.size := fun j hj => HA.out.at_.usesLt hj
    have hmB : ∀ j, uses mB pB mbB ovB ivB fsB j → w1.heap.size ≤ j ∧ j < w2.heap.size := fun j hj => ⟨hBm.ge j hj, hBm.at_.usesLt hj⟩
    have HR1 := Lib.hid (Run_named w2 mA pA mbA ovA ivA _ n r1 sA1 hr1.symm hA2 (rvRows_below HRv.out hB02) (fun h => by have := hmA _ h; omega) (by omega) (by show c.out.length + n ≤ _; omega))
    have HBm := Lib.hid hBm
    have HmA := Lib.hid hmA
    have HuA := Lib.hid huA
    have HmB := Lib.hid hmB
    have HQ := Lib.hid (And.intro hr2 (And.intro hr3 (And.intro hcc (And.intro hpg (And.intro ho1.1 (And.intro ho2.1 (And.intro hg2 hlen1)))))))
    have z2 := (HX.out w2 hk2).2.2.2
    clear hBm hmA hmB hA2 huA hr1 hr2 hr3 hcc hpg ho1 ho2 hg1 hg2 hlen1 hadd hle1 hle2
    go_wp2_with fail
    refine Calls.mono HR1.out ?_
    rintro e w3 ⟨rfl, ovA1, hA3, hK3, hO3, hb3⟩
    have hB03 : Below w.heap.size w w3 := below_kept hB02 hK3 (fun j hj => by have := HmA.out j hj; omega) (by omega)
    have hBm3 : MachAt w3 mB pB mbB ovB ivB ⟨c, fsB, inp⟩ := run_keeps HBm.out.at_ hK3 fun j hj hm => by have := HmA.out j hm; have := HmB.out j hj; omega
    have hmA1 : ∀ j, mine mA sA1.fs ovA1 j → W.heap.size ≤ j ∧ (j < w1.heap.size ∨ w2.heap.size ≤ j) := fun j hj => by
      rcases hj with rfl | hj | hj
      · have := HmA.out j (.inl rfl); omega
      · rw [hb3] at hj
        have := HmA.out j (.inr (.inl hj)); omega
      · rcases hO3 j hj with h | h
        · have := HmA.out j (.inr (.inr h)); omega
        · have := hB1.size; omega
    have hk3 : w3.heap[w.heap.size]? = W.heap[w.heap.size]? := (hK3.block _ (Nat.lt_of_lt_of_le hW1 hs2) (fun h => by have := HmA.out _ h; omega)).trans hk2
    have hs23 := hK3.size
    have HR2 := Lib.hid (Run_named w3 mA pA mbA ovA1 ivA sA1 k r2 sA2 HQ.out.1.symm hA3 (rvRows_below HRv.out hB03) (fun h => by have := hmA1 _ h; omega) (by omega) (by have := HQ.out.2.2.2.2.1; omega))
    have HmA1 := Lib.hid hmA1
    have HBm3 := Lib.hid hBm3
    have HO3 := Lib.hid hO3
    have Hb3 := Lib.hid hb3
    have z3 := (HX.out w3 hk3).2.2.2
    clear hmA1 hBm3 hA3 hK3 hO3 hb3 HR1
    go_wp2_with fail
    refine Calls.mono HR2.out ?_
    rintro e w4 ⟨rfl, ovA2, hA4, hK4, hO4, hb4⟩
    have hB04 : Below w.heap.size w w4 := below_kept hB03 hK4 (fun j hj => by have := HmA1.out j hj; omega) (by omega)
    have hBm4 : MachAt w4 mB pB mbB ovB ivB ⟨c, fsB, inp⟩ := run_keeps HBm3.out hK4 fun j hj hm => by have := HmA1.out j hm; have := HmB.out j hj; omega
    have huA2 : ∀ j, uses mA pA mbA ovA2 ivA sA2.fs j → j < w1.heap.size ∨ w2.heap.size ≤ j := fun j hj => by
      rcases hj with (rfl | hj | hj) | hj
      · exact .inl (HuA.out j (.inl (.inl rfl)))
      · rw [hb4, Hb3.out] at hj
        exact .inl (HuA.out j (.inl (.inr (.inl hj))))
      · rcases hO4 j hj with h | h
        · rcases HO3.out j h with h | h
          · exact .inl (HuA.out j (.inl (.inr (.inr h))))
          · exact .inr h
        · exact .inr (by omega)
      · exact .inl (HuA.out j (.inr hj))
    have hk4 : w4.heap[w.heap.size]? = W.heap[w.heap.size]? := (hK4.block _ (by omega) (fun h => by have := HmA1.out _ h; omega)).trans hk3
    have hs34 := hK4.size
    have HR3 := Lib.hid (Run_named w4 mB pB mbB ovB ivB ⟨c, fsB, inp⟩ (n + k) (r1 + r2) sB3 HQ.out.2.1.symm hBm4 (rvRows_below HRv.out hB04) (fun h => by have := HmB.out _ (.inl h); omega) (by omega) (by show c.out.length + (n + k) ≤ _; omega))
    have hlA2 : sA2.fs.length ≤ 4096 := by
      have h1 := congrArg List.length hb4
      have h2 := congrArg List.length Hb3.out
      simp only [List.length_map] at h1 h2
      have := HQ.out.2.2.2.2.2.2.2
      omega
    have z4 := (HX.out w4 hk4).2.2.2
    have HA4 := Lib.hid hA4
    have HuA2 := Lib.hid huA2
    clear hBm4 hA4 hK4 hO4 hb4 huA2 HR2 HO3 Hb3 HBm3
    go_wp2_with fail
    refine Calls.mono HR3.out ?_
    rintro e w5 ⟨rfl, ovB1, hB5m, hK5, hO5, hb5⟩
    have hB05 : Below w.heap.size w w5 := below_kept hB04 hK5 (fun j hj => by have := HmB.out j (.inl hj); omega) (by omega)
    have hA5 : MachAt w5 mA pA mbA ovA2 ivA sA2 := run_keeps HA4.out hK5 fun j hj hm => by have := HmB.out j (.inl hm); have := HuA2.out j hj; omega
    have hlB : sB3.fs.length ≤ 4096 := by
      have h1 := congrArg List.length HQ.out.2.2.2.1
      simp only [List.length_map] at h1
      omega
    have hoA : sA2.c.out.length ≤ 140737488355328 := by
      have := HQ.out.2.2.2.2.1
      have := HQ.out.2.2.2.2.2.1
      omega
    have HSt := Lib.hid (State_form w5 mA pA mbA ovA2 ivA sA2 sA2.c rfl hA5 hoA)
    have HA5 := Lib.hid hA5
    have HB5 := Lib.hid hB5m
    have HL2 := Lib.hid hA5.len
    clear hA5 hB5m hK5 hO5 hb5 HR3
    go_wp2_with fail
    refine Calls.mono HSt.out ?_
    rintro e w6 ⟨A1, k1, rfl, hO6, hB6⟩
    have hB06 : Below w.heap.size w w6 := hB05.trans (hB6.mono hB05.size)
    obtain ⟨ds, hds⟩ : ∃ ds, ds = (sA2.c.cells (.slice A1 sA2.c.out.length k1)).toArray := ⟨_, rfl⟩
    have hone : ds.all (·.oneCell') = true := by rw [hds]; exact cells_oneA rfl
    have hdz : ds.size = 39 := by rw [hds, List.size_toArray, ccells_len HL2.out]
    have hin : (Tryd.prog.info? 76).map (·.size) = some ds.size := by rw [hdz]; exact Tryd_sizeCpu2
    have hold : cpuZ.size = ds.size := by rw [hdz]; rfl
    obtain ⟨W6, hW6⟩ : ∃ W6 : World, W6 = w6.alloc (.cells cpuZ 76) := ⟨_, rfl⟩
    have hW60 : W6.heap[w6.heap.size]? = some (.cells cpuZ 76 (0, 0)) := by rw [hW6]; exact heap_alloc_new w6 _
    obtain ⟨W7, hW7⟩ : ∃ W7 : World, W7 = W6.setRow w6.heap.size ds := ⟨_, rfl⟩
    have h7 : W7.heap[w6.heap.size]? = some (.cells ds 76 (0, 0)) := by rw [hW7]; exact setRow_heap W6 _ cpuZ _ _ _ hW60
    have hB67 : Below w6.heap.size w6 W7.drew := by rw [hW7, hW6]; exact (below_setRow ((Below.refl _ _).alloc (Nat.le_refl _) _) (Nat.le_refl _) _).drew
    have h7d : W7.drew.heap[w6.heap.size]? = some (.cells ds 76 (0, 0)) := h7
    have hr7 : W7.drew.rangeAt w6.heap.size 0 (sA2.c.cells (.slice A1 sA2.c.out.length k1)) := fun j v hv => (obj_cell h7d (0 + j)).trans (by rw [Nat.zero_add, hds, List.getElem?_toArray]; exact hv)
    have hc1 : W7.drew.cell? ⟨w6.heap.size, 1, none⟩ = some (.int .u64 0) := (obj_cell h7d 1).trans (by rw [hds, List.getElem?_toArray]; exact (cget_reg HL2.out 0 (by omega)).trans (by rw [HQ.out.2.2.2.2.2.2.1]; rfl))
    have hB57 : Below w5.heap.size w5 W7.drew := hB6.trans (hB67.mono hB6.size)
    have hlt7 : w6.heap.size < W7.drew.heap.size := lt_of_block h7d
    have HA7 := Lib.hid (HA5.out.below hB57)
    have HB7m := Lib.hid (HB5.out.below hB57)
    have HB07 := Lib.hid (hB06.trans (hB67.mono hB06.size))
    have HO7 := Lib.hid ((hO6.below hB67).mono hB67.size)
    have hoB : sB3.c.out.length ≤ 140737488355328 := by rw [HQ.out.2.2.1]; exact hoA
    have HSB := Lib.hid (State_form W7.drew mB pB mbB ovB1 ivB sB3 sA2.c HQ.out.2.2.1 HB7m.out hoB)
    have HC1 := Lib.hid hc1
    have HR7 := Lib.hid hr7
    have HSZ := Lib.hid (show (Tryd.prog.info? 76).map (·.size) = some (sA2.c.cells (.slice A1 sA2.c.out.length k1)).length by rw [ccells_len HL2.out]; exact Tryd_sizeCpu2)
    rw [← hds]
    unfold cpuZ at hW6
    have HW6 := Lib.hid hW6
    have HW7 := Lib.hid hW7
    have HD := Lib.hid hds
    have HK7 := Lib.hid (And.intro hW60 (And.intro hin (And.intro hold hone)))
    have HB7 := Lib.hid (Below.refl W7.drew.heap.size W7.drew)
    clear hW6 hW7 hW60 hin hold hone hds h7 h7d hr7 hc1 hdz hO6
    go_wp2_with (first
      | (rw [← HW6.out]; refine wpList_store_row (o := ⟨none, Op.store 76 (.tmp 11) (.tmp 91), _, _, _, _⟩) rfl 76 (.tmp 11) (.tmp 91) rfl w6.heap.size ds rfl rfl 76 _ HK7.out.1 HK7.out.2.1 HK7.out.2.2.1 HK7.out.2.2.2 ?_; rw [← HW7.out]))
    rw [HD.out]
    refine wp_region_any (by kernel_rfl) ?_
    change wpAny _ _ _ _ _ _ _ (World.drew _)
    refine wpAny_take (i := 0) (v := .int .i64 ((r1 + r2 : Nat) : Int)) rfl (by kernel_rfl) (by kernel_rfl) (by kernel_rfl) (fun _ _ _ h => h) (Or.inl ⟨by rfl, ?_⟩) ?_
    · intro w; go_simp
    refine wpAny_take (i := 1) (v := .int .i64 ((r1 + r2 : Nat) : Int)) rfl (by kernel_rfl) (by kernel_rfl) (by kernel_rfl) (fun _ _ _ h => h) (Or.inl ⟨by rfl, ?_⟩) ?_
    · intro w; go_simp
    refine wpAny_take (i := 2) (v := .bool true) rfl (by kernel_rfl) (by kernel_rfl) (by kernel_rfl) (fun _ _ _ h => h) (Or.inl ⟨by rfl, ?_⟩) ?_
    · intro w; go_simp
    refine wpAny_take (i := 3) (v := .bool true) rfl (by kernel_rfl) (by kernel_rfl) (by kernel_rfl) (fun _ _ _ h => h) (Or.inl ⟨by rfl, ?_⟩) ?_
    · intro w; go_simp
    refine wpAny_take (i := 5) (v := .pointer (some ⟨mB, 0, none⟩)) rfl (by kernel_rfl) (by kernel_rfl) (by kernel_rfl) (fun _ _ _ h => h) (Or.inl ⟨by rfl, ?_⟩) ?_
    · intro w; go_simp
    refine wpAny_ready (rs := [4, 6]) (by kernel_rfl) (by simp) ?_
    refine AllReady.cons rfl (fun K hK => ?_) (AllReady.cons rfl (fun K hK => ?_) AllReady.nil)
    · refine step_loadG rfl 76 (.tmp 11) rfl w6.heap.size 0 rfl (sA2.c.cells (.slice A1 sA2.c.out.length k1)) _ HR7.out Tryd.underlying76 rfl HSZ.out ?_
      refine hK _ _ ?_
      clear hK K
      refine wpAny_ready (rs := [6]) (by kernel_rfl) (by simp) ?_
      refine AllReady.cons rfl (fun K hK => ?_) AllReady.nil
      go_simp
      refine Calls.mono HSB.out ?_
      rintro e w8 ⟨A2, k2, rfl, hb2, hB8⟩
      try go_simp
      refine hK _ _ ?_
      clear hK K
      have HB8 := Lib.hid hB8
      have hB78 := HB7.out.trans (hB8.mono HB7.out.size)
      refine wpAny_ready (rs := [7]) (by kernel_rfl) (by simp) ?_
      refine AllReady.cons rfl (fun K hK => ?_) AllReady.nil
      go_simp
      refine Calls.mono (pCpu_eq w8 sA2.c A1 A2 k1 k2 HL2.out ((HO7.out.below HB8.out).mono HB8.out.size) hb2) ?_
      rintro e w9 ⟨rfl, hB9⟩
      try go_simp
      refine hK _ _ ?_
      clear hK K
      have hB79 := (HB8.out).trans (hB9.mono HB8.out.size)
      refine wpAny_take (i := 8) (v := .bool true) rfl (by kernel_rfl) (by kernel_rfl) (by kernel_rfl) (fun _ _ _ h => h) (Or.inl ⟨by rfl, ?_⟩) ?_
      · intro w; go_simp
      refine wpAny_take (i := 9) (v := .bool true) rfl (by kernel_rfl) (by kernel_rfl) (by kernel_rfl) (fun _ _ _ h => h) (Or.inl ⟨by rfl, ?_⟩) ?_
      · intro w; go_simp
      refine wpAny_take (i := 10) (v := .pointer (some ⟨mA, 0, none⟩)) rfl (by kernel_rfl) (by kernel_rfl) (by kernel_rfl) (fun _ _ _ h => h) (Or.inl ⟨by rfl, ?_⟩) ?_
      · intro w; go_simp
      refine wpAny_take (i := 12) (v := .pointer (some ⟨mB, 0, none⟩)) rfl (by kernel_rfl) (by kernel_rfl) (by kernel_rfl) (fun _ _ _ h => h) (Or.inl ⟨by rfl, ?_⟩) ?_
      · intro w; go_simp
      refine wpAny_ready (rs := [11]) (by kernel_rfl) (by simp) ?_
      refine AllReady.cons rfl (fun K hK => ?_) AllReady.nil
      go_simp
      refine Calls.mono (cPages_any w9 mA pA mbA ovA2 ivA sA2 (HA7.out.below hB79) (by omega)) ?_
      rintro e w10 ⟨v1, ss1, rfl, hP1, hs1, hB10⟩
      try go_simp
      refine hK _ _ ?_
      clear hK K
      have hB710 := hB79.trans (hB10.mono hB79.size)
      refine wpAny_ready (rs := [13]) (by kernel_rfl) (by simp) ?_
      refine AllReady.cons rfl (fun K hK => ?_) AllReady.nil
      go_simp
      refine Calls.mono (cPages_any w10 mB pB mbB ovB1 ivB sB3 (HB7m.out.below hB710) (by omega)) ?_
      rintro e w11 ⟨v2, ss2, rfl, hP2, hs2', hB11⟩
      try go_simp
      refine hK _ _ ?_
      clear hK K
      have hB711 := hB710.trans (hB11.mono hB710.size)
      have hl1 : ss1.length = sA2.fs.length := by have := congrArg List.length hs1; simpa [sortF_length] using this
      have hl2 : ss2.length = sB3.fs.length := by have := congrArg List.length hs2'; simpa [sortF_length] using this
      have hll : sB3.fs.length = sA2.fs.length := by have := congrArg List.length HQ.out.2.2.2.1; simpa using this
      obtain ⟨PA1, pc1, hv1, hp1⟩ := (hP1.below hB11).pgs (by omega)
      obtain ⟨PA2, pc2, hv2, hp2⟩ := hP2.pgs (by omega)
      subst hv1
      subst hv2
      rw [hl1]
      rw [hl2, hll]
      refine wpAny_ready (rs := [14]) (by kernel_rfl) (by simp) ?_
      refine AllReady.cons rfl (fun K hK => ?_) AllReady.nil
      go_simp
      refine Calls.mono (pPages_same w11 PA1 PA2 sA2.fs.length pc1 pc2 ss1 ss2 hp1 hp2 hl1 (hl2.trans hll) (hs1.trans ((sortF_pg HQ.out.2.2.2.1).symm.trans hs2'.symm))) ?_
      rintro e w12 ⟨rfl, hB12⟩
      try go_simp
      refine hK _ _ ?_
      clear hK K
      have hB712 := hB711.trans (hB12.mono hB711.size)
      have r12 : w12.cell? ⟨w6.heap.size, 1, none⟩ = some (.int .u64 0) := (hB712.cell (p := ⟨w6.heap.size, 1, none⟩) (by show w6.heap.size < _; omega)).trans HC1.out
      refine wpAny_ready (rs := [15]) (by kernel_rfl) (by simp) ?_
      refine AllReady.cons rfl (fun K hK => ?_) AllReady.nil
      go_simp
      refine hK _ _ ?_
      clear hK K
      refine wpAny_ready (rs := [16]) (by kernel_rfl) (by simp) ?_
      refine AllReady.cons rfl (fun K hK => ?_) AllReady.nil
      go_simp
      refine hK _ _ ?_
      clear hK K
      refine wpAny_ready (rs := [17]) (by kernel_rfl) (by simp) ?_
      refine AllReady.cons rfl (fun K hK => ?_) AllReady.nil
      go_simp
      refine hK _ _ ?_
      clear hK K
      refine wpAny_ready (rs := [18]) (by kernel_rfl) (by simp) ?_
      refine AllReady.cons rfl (fun K hK => ?_) AllReady.nil
      go_simp
      refine hK _ _ ?_
      clear hK K
      refine wpAny_ready (rs := [19]) (by kernel_rfl) (by simp) ?_
      refine AllReady.cons rfl (fun K hK => ?_) AllReady.nil
      go_simp
      refine hK _ _ ?_
      clear hK K
      refine wpAny_ready (rs := [20]) (by kernel_rfl) (by simp) ?_
      refine AllReady.cons rfl (fun K hK => ?_) AllReady.nil
      go_simp
      refine hK _ _ ?_
      clear hK K
      refine wpAny_ready (rs := [21]) (by kernel_rfl) (by simp) ?_
      refine AllReady.cons rfl (fun K hK => ?_) AllReady.nil
      go_simp
      refine hK _ _ ?_
      clear hK K
      refine wpAny_ready (rs := [22]) (by kernel_rfl) (by simp) ?_
      refine AllReady.cons rfl (fun K hK => ?_) AllReady.nil
      go_simp
      refine hK _ _ ?_
      clear hK K
      refine wpAny_ready (rs := [23]) (by kernel_rfl) (by simp) ?_
      refine AllReady.cons rfl (fun K hK => ?_) AllReady.nil
      go_simp
      refine Calls.mono (HS.out w12 (HB07.out.trans (hB712.mono HB07.out.size))) ?_
      rintro e w13 ⟨rfl, hB13⟩
      try go_simp
      refine hK _ _ ?_
      clear hK K
      refine wpAny_ready (rs := [24]) (by kernel_rfl) (by simp) ?_
      refine AllReady.cons rfl (fun K hK => ?_) AllReady.nil
      go_simp
      refine hK _ _ ?_
      clear hK K
      refine wpAny_ready (rs := [25]) (by kernel_rfl) (by simp) ?_
      refine AllReady.cons rfl (fun K hK => ?_) AllReady.nil
      go_simp
      refine hK _ _ ?_
      clear hK K
      refine wpAny_done (by kernel_rfl) ?_ _
      go_wp2
      go_ret
      exact ⟨rfl, (HB07.out.trans (hB712.mono HB07.out.size)).trans (hB13.mono (Nat.le_trans HB07.out.size hB712.size))⟩
    · go_simp
      refine Calls.mono HSB.out ?_
      rintro e w8 ⟨A2, k2, rfl, hb2, hB8⟩
      try go_simp
      refine hK _ _ ?_
      clear hK K
      have HB8 := Lib.hid hB8
      have hB78 := HB7.out.trans (hB8.mono HB7.out.size)
      refine wpAny_ready (rs := [4]) (by kernel_rfl) (by simp) ?_
      refine AllReady.cons rfl (fun K hK => ?_) AllReady.nil
      have HR8 := Lib.hid (show w8.rangeAt w6.heap.size 0 (sA2.c.cells (.slice A1 sA2.c.out.length k1)) from fun j v hv => (hB8.cell (p := ⟨w6.heap.size, 0 + j, none⟩) hlt7).trans (HR7.out j v hv))
      refine step_loadG rfl 76 (.tmp 11) rfl w6.heap.size 0 rfl (sA2.c.cells (.slice A1 sA2.c.out.length k1)) _ HR8.out Tryd.underlying76 rfl HSZ.out ?_
      refine hK _ _ ?_
      clear hK K
      refine wpAny_ready (rs := [7]) (by kernel_rfl) (by simp) ?_
      refine AllReady.cons rfl (fun K hK => ?_) AllReady.nil
      go_simp
      refine Calls.mono (pCpu_eq w8 sA2.c A1 A2 k1 k2 HL2.out ((HO7.out.below HB8.out).mono HB8.out.size) hb2) ?_
      rintro e w9 ⟨rfl, hB9⟩
      try go_simp
      refine hK _ _ ?_
      clear hK K
      have hB79 := (HB8.out).trans (hB9.mono HB8.out.size)
      refine wpAny_take (i := 8) (v := .bool true) rfl (by kernel_rfl) (by kernel_rfl) (by kernel_rfl) (fun _ _ _ h => h) (Or.inl ⟨by rfl, ?_⟩) ?_
      · intro w; go_simp
      refine wpAny_take (i := 9) (v := .bool true) rfl (by kernel_rfl) (by kernel_rfl) (by kernel_rfl) (fun _ _ _ h => h) (Or.inl ⟨by rfl, ?_⟩) ?_
      · intro w; go_simp
      refine wpAny_take (i := 10) (v := .pointer (some ⟨mA, 0, none⟩)) rfl (by kernel_rfl) (by kernel_rfl) (by kernel_rfl) (fun _ _ _ h => h) (Or.inl ⟨by rfl, ?_⟩) ?_
      · intro w; go_simp
      refine wpAny_take (i := 12) (v := .pointer (some ⟨mB, 0, none⟩)) rfl (by kernel_rfl) (by kernel_rfl) (by kernel_rfl) (fun _ _ _ h => h) (Or.inl ⟨by rfl, ?_⟩) ?_
      · intro w; go_simp
      refine wpAny_ready (rs := [11]) (by kernel_rfl) (by simp) ?_
      refine AllReady.cons rfl (fun K hK => ?_) AllReady.nil
      go_simp
      refine Calls.mono (cPages_any w9 mA pA mbA ovA2 ivA sA2 (HA7.out.below hB79) (by omega)) ?_
      rintro e w10 ⟨v1, ss1, rfl, hP1, hs1, hB10⟩
      try go_simp
      refine hK _ _ ?_
      clear hK K
      have hB710 := hB79.trans (hB10.mono hB79.size)
      refine wpAny_ready (rs := [13]) (by kernel_rfl) (by simp) ?_
      refine AllReady.cons rfl (fun K hK => ?_) AllReady.nil
      go_simp
      refine Calls.mono (cPages_any w10 mB pB mbB ovB1 ivB sB3 (HB7m.out.below hB710) (by omega)) ?_
      rintro e w11 ⟨v2, ss2, rfl, hP2, hs2', hB11⟩
      try go_simp
      refine hK _ _ ?_
      clear hK K
      have hB711 := hB710.trans (hB11.mono hB710.size)
      have hl1 : ss1.length = sA2.fs.length := by have := congrArg List.length hs1; simpa [sortF_length] using this
      have hl2 : ss2.length = sB3.fs.length := by have := congrArg List.length hs2'; simpa [sortF_length] using this
      have hll : sB3.fs.length = sA2.fs.length := by have := congrArg List.length HQ.out.2.2.2.1; simpa using this
      obtain ⟨PA1, pc1, hv1, hp1⟩ := (hP1.below hB11).pgs (by omega)
      obtain ⟨PA2, pc2, hv2, hp2⟩ := hP2.pgs (by omega)
      subst hv1
      subst hv2
      rw [hl1]
      rw [hl2, hll]
      refine wpAny_ready (rs := [14]) (by kernel_rfl) (by simp) ?_
      refine AllReady.cons rfl (fun K hK => ?_) AllReady.nil
      go_simp
      refine Calls.mono (pPages_same w11 PA1 PA2 sA2.fs.length pc1 pc2 ss1 ss2 hp1 hp2 hl1 (hl2.trans hll) (hs1.trans ((sortF_pg HQ.out.2.2.2.1).symm.trans hs2'.symm))) ?_
      rintro e w12 ⟨rfl, hB12⟩
      try go_simp
      refine hK _ _ ?_
      clear hK K
      have hB712 := hB711.trans (hB12.mono hB711.size)
      have r12 : w12.cell? ⟨w6.heap.size, 1, none⟩ = some (.int .u64 0) := (hB712.cell (p := ⟨w6.heap.size, 1, none⟩) (by show w6.heap.size < _; omega)).trans HC1.out
      refine wpAny_ready (rs := [15]) (by kernel_rfl) (by simp) ?_
      refine AllReady.cons rfl (fun K hK => ?_) AllReady.nil
      go_simp
      refine hK _ _ ?_
      clear hK K
      refine wpAny_ready (rs := [16]) (by kernel_rfl) (by simp) ?_
      refine AllReady.cons rfl (fun K hK => ?_) AllReady.nil
      go_simp
      refine hK _ _ ?_
      clear hK K
      refine wpAny_ready (rs := [17]) (by kernel_rfl) (by simp) ?_
      refine AllReady.cons rfl (fun K hK => ?_) AllReady.nil
      go_simp
      refine hK _ _ ?_
      clear hK K
      refine wpAny_ready (rs := [18]) (by kernel_rfl) (by simp) ?_
      refine AllReady.cons rfl (fun K hK => ?_) AllReady.nil
      go_simp
      refine hK _ _ ?_
      clear hK K
      refine wpAny_ready (rs := [19]) (by kernel_rfl) (by simp) ?_
      refine AllReady.cons rfl (fun K hK => ?_) AllReady.nil
      go_simp
      refine hK _ _ ?_
      clear hK K
      refine wpAny_ready (rs := [20]) (by kernel_rfl) (by simp) ?_
      refine AllReady.cons rfl (fun K hK => ?_) AllReady.nil
      go_simp
      refine hK _ _ ?_
      clear hK K
      refine wpAny_ready (rs := [21]) (by kernel_rfl) (by simp) ?_
      refine AllReady.cons rfl (fun K hK => ?_) AllReady.nil
      go_simp
      refine hK _ _ ?_
      clear hK K
      refine wpAny_ready (rs := [22]) (by kernel_rfl) (by simp) ?_
      refine AllReady.cons rfl (fun K hK => ?_) AllReady.nil
      go_simp
      refine hK _ _ ?_
      clear hK K
      refine wpAny_ready (rs := [23]) (by kernel_rfl) (by simp) ?_
      refine AllReady.cons rfl (fun K hK => ?_) AllReady.nil
      go_simp
      refine Calls.mono (HS.out w12 (HB07.out.trans (hB712.mono HB07.out.size))) ?_
      rintro e w13 ⟨rfl, hB13⟩
      try go_simp
      refine hK _ _ ?_
      clear hK K
      refine wpAny_ready (rs := [24]) (by kernel_rfl) (by simp) ?_
      refine AllReady.cons rfl (fun K hK => ?_) AllReady.nil
      go_simp
      refine hK _ _ ?_
      clear hK K
      refine wpAny_ready (rs := [25]) (by kernel_rfl) (by simp) ?_
      refine AllReady.cons rfl (fun K hK => ?_) AllReady.nil
      go_simp
      refine hK _ _ ?_
      clear hK K
      refine wpAny_done (by kernel_rfl) ?_ _
      go_wp2
      go_ret
      exact ⟨rfl, (HB07.out.trans (hB712.mono HB07.out.size)).trans (hB13.mono (Nat.le_trans HB07.out.size hB712.size))⟩
end Go.Proofs
