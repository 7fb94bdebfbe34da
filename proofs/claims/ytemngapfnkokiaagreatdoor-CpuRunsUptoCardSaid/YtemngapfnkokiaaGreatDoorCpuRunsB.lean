/- patinalaw03.CpuRuns: the walk, of more than 5000 steps, so 5000. -/
import Derived.Test.YtemngapfnkokiaaGreatDoorCpuRunsK
namespace Go.Proofs
open Go Go.RowKit Go.Pat
set_option maxRecDepth 20000 in
set_option maxHeartbeats 64000000 in
theorem CpuRuns_many (w : World) (c : Mc) (OA PA IA : Option Addr) (oc pc ic : Nat) (ps : List PgIn) (inp : List UInt8) (N : Int) (hN : 5000 < N) (hl : c.regs.length = 32) (hsm : ∀ i, c.reg i < 18446744073709551616) (hpc : c.pc < 18446744073709551616)
    (hO : Bs w.heap.size w OA c.out) (hol : c.out.length ≤ 140737488345328) (hP : PgsAt w.heap.size w PA ps) (hI : Bs w.heap.size w IA inp) (hil : inp.length ≤ 140737488355328) (hR : RvRows w) :
    Calls Tryz.prog 3 #[.agg (caseC c OA PA IA oc pc ic ps.length inp.length N).toArray] w fun e w' => e = .returned (.bool true) ∧ Below w.heap.size w w' := by
  have q1 : decide (5000 < N) = true := decide_eq_true hN
  obtain ⟨cs, hcs⟩ : ∃ cs, cs = (caseC c OA PA IA oc pc ic ps.length inp.length N).toArray := ⟨_, rfl⟩
  obtain ⟨W, hW⟩ : ∃ W : World, W = w.alloc (.cells cs 30) := ⟨_, rfl⟩
  have hB : Below w.heap.size w W := by rw [hW]; exact (Below.refl _ _).alloc (Nat.le_refl _) _
  have hWs : w.heap.size < W.heap.size := by rw [hW, World.size_alloc]; omega
  have h1 : W.heap[w.heap.size]? = some (.cells cs 30 (0, 0)) := by rw [hW]; exact heap_alloc_new w _
  have hbox : ∀ w' : World, w'.heap[w.heap.size]? = W.heap[w.heap.size]? → w'.rangeAt w.heap.size 0 (c.cells (.slice OA c.out.length oc)) ∧ w'.cell? ⟨w.heap.size, 39, none⟩ = some (.slice PA ps.length pc) ∧ w'.cell? ⟨w.heap.size, 40, none⟩ = some (.slice IA inp.length ic) ∧ w'.cell? ⟨w.heap.size, 41, none⟩ = some (.int .i64 N) := fun w' h => by
    rw [h1, hcs] at h
    exact ⟨case_range h, case_tail hl h 0, case_tail hl h 1, case_tail hl h 2⟩
  have hsz : (Tryz.prog.info? 27).map (·.size) = some (c.cells (.slice OA c.out.length oc)).length := by rw [ccells_len hl]; exact Tryz_sizeCpu2
  have HX := Lib.hid hbox
  have HZ := Lib.hid hsz
  have HW := Lib.hid hW
  have hNew : Calls Tryz.prog 4 #[.agg (c.cells (.slice OA c.out.length oc)).toArray, .slice PA ps.length pc, .slice IA inp.length ic] W (NewPost W c ps inp) :=
    New_any3 W c OA PA IA oc pc ic ps inp hl hsm hpc ((hO.below hB).mono hB.size) (by omega) (PgsAt.mono (hP.below hB) hB.size) ((hI.below hB).mono hB.size) hil
  have HN := Lib.hid hNew
  have hNewR : ∀ w1 : World, Below w.heap.size w w1 → Calls Tryz.prog 5 #[.agg (c.cells (.slice OA c.out.length oc)).toArray, .slice PA ps.length pc, .slice IA inp.length ic] w1 (RNewTo w1 c ps inp) := fun w1 hb =>
    r3new_any w1 c OA PA IA oc pc ic ps inp hl hsm hpc ((hO.below hb).mono hb.size) (by omega) (PgsAt.mono (hP.below hb) hb.size) ((hI.below hb).mono hb.size) hil
  have HNR := Lib.hid hNewR
  have hSm : ∀ w1 : World, Below w.heap.size w w1 → Calls Tryz.prog 6 #[] w1 fun e w' => e = .returned (.bool true) ∧ Below w1.heap.size w1 w' := fun w1 hb => small3_any w1 (rvRows_below hR hb)
  have HS := Lib.hid hSm
  have HRv := Lib.hid hR
  have HOL := Lib.hid hol
  rw [← hcs]
  clear hW h1 hcs hR hbox hsz hNew hNewR hSm hO hP hI hsm hpc hl hol hil
  have hx0 := (HX.out W rfl).2
  go_enter Tryz.func3, Tryz.ntmps3
  go_upto_region 1 with fail
  rw [← HW.out]
  obtain ⟨x0, x1, x2⟩ := hx0
  go_wp2_with (refine wpList_load_want (op := ⟨some 10, _, _, _, _, _⟩) rfl 27 (.tmp 9) rfl w.heap.size 0 rfl (c.cells (.slice OA c.out.length oc)) _ (HX.out W rfl).1 Tryz.underlying27 rfl HZ.out ?_)
  refine Calls.mono HN.out ?_
  intro e w1 h
  obtain ⟨hB1, h⟩ := h.two
  have hk1 : w1.heap[w.heap.size]? = W.heap[w.heap.size]? := hB1.block _ hWs
  have hB01 : Below w.heap.size w w1 := hB.trans (hB1.mono hB.size)
  have hx1 := HX.out w1 hk1
  have HX1 := Lib.hid hx1.1
  obtain ⟨y0, y1, y2⟩ := hx1.2
  rcases h with ⟨hE, rfl⟩ | ⟨hE, hrt, hfr, mA, pA, mbA, ovA, ivA, fsA, rfl, hA⟩
  · generalize hEe : newE c ps inp.length = E at hE
    have t0 : (E != 0) = true := by simpa using hE
    have t1 : (E != E) = false := by simp
    have HE := Lib.hid hEe
    clear hEe hE
    go_wp2_with (refine wpList_load_want (op := ⟨some 20, _, _, _, _, _⟩) rfl 27 (.tmp 19) rfl w.heap.size 0 rfl (c.cells (.slice OA c.out.length oc)) _ HX1.out Tryz.underlying27 rfl HZ.out ?_)
    refine Calls.mono (HNR.out w1 hB01) ?_
    rintro e w2 ⟨hB2, h⟩
    rw [HE.out] at h
    have hB02 : Below w.heap.size w w2 := hB01.trans (hB2.mono hB01.size)
    rcases h with ⟨-, rfl⟩ | ⟨h0, -⟩
    · go_wp2_with fail
      refine Calls.mono (HS.out w2 hB02) ?_
      rintro e w3 ⟨rfl, hB3⟩
      go_wp2
      go_ret
      exact ⟨rfl, hB02.trans (hB3.mono hB02.size)⟩
    · rw [h0] at t0
      cases t0
  · have HA := Lib.hid hA
    have HF := Lib.hid (And.intro hrt hfr)
    have HE := Lib.hid hE
    clear hA hrt hfr hE
    go_wp2_with (refine wpList_load_want (op := ⟨some 20, _, _, _, _, _⟩) rfl 27 (.tmp 19) rfl w.heap.size 0 rfl (c.cells (.slice OA c.out.length oc)) _ HX1.out Tryz.underlying27 rfl HZ.out ?_)
    refine Calls.mono (HNR.out w1 hB01) ?_
    rintro e w2 ⟨hB2, h⟩
    have hB02 : Below w.heap.size w w2 := hB01.trans (hB2.mono hB01.size)
    rcases h with ⟨h0, -⟩ | ⟨-, -, -, mR, PR, pcR, ovR, ivR, fsR, rfl, hRm⟩
    · exact absurd HE.out h0
    have hW1 : w.heap.size < w1.heap.size := Nat.lt_of_lt_of_le hWs hB1.size
    have hk2 : w2.heap[w.heap.size]? = W.heap[w.heap.size]? := (hB2.block _ hW1).trans hk1
    have hrow := HRv.out.1
    have hs2 := hB2.size
    obtain ⟨⟨r, sA⟩, hr1⟩ : ∃ r, r = runM (5000 : Int).toNat ⟨c, fsA, inp⟩ := ⟨_, rfl⟩
    obtain ⟨⟨r', sR⟩, hr2⟩ : ∃ r, r = runM (5000 : Int).toNat ⟨c, fsR, inp⟩ := ⟨_, rfl⟩
    have hsame := run_same (c := c) (inp := inp) (HA.out.pg.trans hRm.pg.symm) (5000 : Int).toNat
    rw [← hr1, ← hr2] at hsame
    obtain ⟨hrr, hcc, hpg⟩ := hsame
    simp only at hrr hcc hpg
    have hle := runM_le (5000 : Int).toNat ⟨c, fsA, inp⟩
    have ho1 := runM_out (5000 : Int).toNat ⟨c, fsA, inp⟩
    have hbs := runM_base (5000 : Int).toNat ⟨c, fsA, inp⟩
    rw [← hr1] at hle ho1 hbs
    simp only at hle ho1 hbs
    have hok := (psOK_of HF.out.2).rises
    rw [← HA.out.pg] at hok
    have hri : (Bases sA.fs).Pairwise (· < ·) := by
      have h2 := List.pairwise_map.1 hok
      rw [hbs]
      show (fsA.map (·.base)).Pairwise _
      exact List.pairwise_map.2 (h2.imp fun h => h)
    have hlen1 : sA.fs.length ≤ 4096 := by
      have h1 := from_few HF.out.2
      rw [← HA.out.pg, List.length_map] at h1
      have h2 := congrArg List.length hbs
      simp only [Bases, List.length_map] at h2
      omega
    have hll : sR.fs.length = sA.fs.length := by have := congrArg List.length hpg; simpa using this.symm
    subst hrr
    have f1 : (((r : Nat) : Int) != ((r : Nat) : Int)) = false := by simp
    have hA2 : MachAt w2 mA pA mbA ovA ivA ⟨c, fsA, inp⟩ := HA.out.at_.below hB2
    have hmA : ∀ j, mine mA fsA ovA j → W.heap.size ≤ j ∧ j < w1.heap.size := fun j hj => ⟨HA.out.ge j (.inl hj), HA.out.at_.usesLt (.inl hj)⟩
    have huA : ∀ j, uses mA pA mbA ovA ivA fsA j → j < w1.heap.size := fun j hj => HA.out.at_.usesLt hj
    have hmR : ∀ j, rUses mR PR ovR ivR fsR j → w1.heap.size ≤ j ∧ j < w2.heap.size := fun j hj => ⟨hRm.ge j hj, hRm.at_.usesLt hj⟩
    have HR1 := Lib.hid (Run_int w2 mA pA mbA ovA ivA _ (5000 : Int) r sA hr1.symm hA2 (rvRows_below HRv.out hB02) (fun h => by have := hmA _ h; omega) (by omega) (by show c.out.length + 5000 ≤ _; have := HOL.out; omega))
    have HRm := Lib.hid hRm
    have HmA := Lib.hid hmA
    have HuA := Lib.hid huA
    have HmR := Lib.hid hmR
    have HQ := Lib.hid (And.intro hr2 (And.intro hcc (And.intro hpg (And.intro ho1.1 (And.intro hri (And.intro hlen1 (And.intro hll hle)))))))
    have z2 := (HX.out w2 hk2).2.2.2
    clear hRm hmA hmR hA2 huA hr1 hr2 hcc hpg ho1 hri hlen1 hll hle hbs hok
    go_wp2_with fail
    refine Calls.mono HR1.out ?_
    rintro e w3 ⟨rfl, ovA1, hA3, hK3, hO3, hb3⟩
    have hB03 : Below w.heap.size w w3 := below_kept hB02 hK3 (fun j hj => by have := HmA.out j hj; omega) (by omega)
    have hs23 := hK3.size
    have hR3 : RefAt w3 mR PR pcR ovR ivR ⟨c, fsR, inp⟩ := HRm.out.at_.kept hs23 fun j hj => hK3.block j (HmR.out j hj).2 fun hm => by have := HmA.out j hm; have := HmR.out j hj; omega
    have huA1 : ∀ j, uses mA pA mbA ovA1 ivA sA.fs j → j < w1.heap.size ∨ w2.heap.size ≤ j := fun j hj => by
      rcases hj with (rfl | hj | hj) | hj
      · exact .inl (HuA.out j (.inl (.inl rfl)))
      · rw [hb3] at hj
        exact .inl (HuA.out j (.inl (.inr (.inl hj))))
      · rcases hO3 j hj with h | h
        · exact .inl (HuA.out j (.inl (.inr (.inr h))))
        · exact .inr h
      · exact .inl (HuA.out j (.inr hj))
    have HR2 := Lib.hid (r3run_int w3 mR PR pcR ovR ivR ⟨c, fsR, inp⟩ (5000 : Int) r sR HQ.out.1.symm hR3 (rightB_reg0 HF.out.1) (by omega) (by show c.out.length + 5000 ≤ _; have := HOL.out; omega))
    have HA3 := Lib.hid hA3
    have HuA1 := Lib.hid huA1
    clear hA3 hK3 hO3 hb3 HR1 hR3 huA1
    go_wp2_with fail
    refine Calls.mono HR2.out ?_
    rintro e w4 ⟨rfl, ovR1, hR4, hK4, hO4, hb4⟩
    have hB04 : Below w.heap.size w w4 := below_kept hB03 hK4 (fun j hj => by have := HmR.out j (.inl hj); omega) (by omega)
    have hA4 : MachAt w4 mA pA mbA ovA1 ivA sA := run_keeps HA3.out hK4 fun j hj hm => by have := HmR.out j (.inl hm); have := HuA1.out j hj; omega
    have hoA : sA.c.out.length ≤ 140737488355328 := by
      have h1 := HQ.out.2.2.2.1
      have h2 := HOL.out
      have h3 : (5000 : Int).toNat ≤ 5000 := by omega
      omega
    have hBd : Below w4.heap.size w4 w4.drew := (Below.refl _ _).drew
    have HSt := Lib.hid (fun (w' : World) (hb : Below w4.heap.size w4 w') => State_form w' mA pA mbA ovA1 ivA sA sA.c rfl (hA4.below hb) hoA)
    have HCP := Lib.hid (fun (w' : World) (hb : Below w4.heap.size w4 w') => cPages_any w' mA pA mbA ovA1 ivA sA (hA4.below hb) (by have := HQ.out.2.2.2.2.2.1; omega))
    have HL2 := Lib.hid hA4.len
    obtain ⟨A2, k2, hshow⟩ := hR4.shown
    rw [← HQ.out.2.1, HQ.out.2.2.2.2.2.2.1] at hshow
    have HSh := Lib.hid hshow
    have HSZ := Lib.hid (show (Tryz.prog.info? 27).map (·.size) = some (sA.c.cells (.slice A2 sA.c.out.length k2)).length by rw [ccells_len HL2.out]; exact Tryz_sizeCpu2)
    have hmR4 := hR4.lt
    have HEq := Lib.hid (show (sortF sA.fs).map Fr.pg = (sR.fs.map frP).map PgIn.pg by rw [sortF_rises HQ.out.2.2.2.2.1, frP_pg]; exact HQ.out.2.2.1)
    have HB4 := Lib.hid hB04
    have HLR := Lib.hid (show (sR.fs.map frP).length = sA.fs.length by rw [List.length_map]; exact HQ.out.2.2.2.2.2.2.1)
    have HLA := Lib.hid HQ.out.2.2.2.2.2.1
    have HBd := Lib.hid hBd
    clear hR4 hK4 hO4 hb4 HR2 hA4 hshow
    go_wp2_with fail
    refine wp_region_any (by kernel_rfl) ?_
    change wpAny _ _ _ _ _ _ _ (World.drew _)
    refine wpAny_take (i := 0) (v := .pointer (some ⟨mA, 0, none⟩)) rfl (by kernel_rfl) (by kernel_rfl) (by kernel_rfl) (fun _ _ _ h => h) (Or.inl ⟨by rfl, ?_⟩) ?_
    · intro w; go_simp
    refine wpAny_take (i := 2) (v := .pointer (some ⟨mR, 0, none⟩)) rfl (by kernel_rfl) (by kernel_rfl) (by kernel_rfl) (fun _ _ _ h => h) (Or.inl ⟨by rfl, ?_⟩) ?_
    · intro w; go_simp
    refine wpAny_take (i := 3) (v := .pointer (some ⟨mR, 0, none⟩)) rfl (by kernel_rfl) (by kernel_rfl) (by kernel_rfl) (fun _ _ _ h => h) (Or.inl ⟨by rfl, ?_⟩) ?_
    · intro w; go_simp
    refine wpAny_take (i := 4) (v := .pointer (some ⟨mR, 0, none⟩)) rfl (by kernel_rfl) (by kernel_rfl) (by kernel_rfl) (fun _ _ _ h => h) (Or.inl ⟨by rfl, ?_⟩) ?_
    · intro w; go_simp
    refine wpAny_ready (rs := [1, 5]) (by kernel_rfl) (by simp) ?_
    refine AllReady.cons rfl (fun K hK => ?_) (AllReady.cons rfl (fun K hK => ?_) AllReady.nil)
    · go_simp
      refine Calls.mono (HSt.out _ HBd.out) ?_
      rintro e w5 ⟨A1, k1, rfl, hO5, hB5⟩
      try go_simp
      refine hK _ _ ?_
      clear hK K
      have HO5 := Lib.hid hO5
      have HB45 := Lib.hid ((HBd.out).trans (hB5.mono (HBd.out).size))
      clear hO5 hB5
      refine wpAny_ready (rs := [5]) (by kernel_rfl) (by simp) ?_
      refine AllReady.cons rfl (fun K hK => ?_) AllReady.nil
      have HRg := Lib.hid (HSh.out w5 HB45.out).1
      refine step_loadG rfl 27 (.tmp 56) rfl mR 0 rfl (sA.c.cells (.slice A2 sA.c.out.length k2)) _ HRg.out Tryz.underlying27 rfl HSZ.out ?_
      refine hK _ _ ?_
      clear hK K
      refine wpAny_ready (rs := [6]) (by kernel_rfl) (by simp) ?_
      refine AllReady.cons rfl (fun K hK => ?_) AllReady.nil
      go_simp
      refine Calls.mono (pCpu_eq w5 sA.c A1 A2 k1 k2 HL2.out HO5.out (HSh.out w5 HB45.out).2.1) ?_
      rintro e w6 ⟨rfl, hB6⟩
      try go_simp
      refine hK _ _ ?_
      clear hK K
      have HB46 := Lib.hid (HB45.out.trans (hB6.mono HB45.out.size))
      clear hB6
      refine wpAny_take (i := 7) (v := .bool true) rfl (by kernel_rfl) (by kernel_rfl) (by kernel_rfl) (fun _ _ _ h => h) (Or.inl ⟨by rfl, ?_⟩) ?_
      · intro w; go_simp
      refine wpAny_take (i := 8) (v := .pointer (some ⟨mA, 0, none⟩)) rfl (by kernel_rfl) (by kernel_rfl) (by kernel_rfl) (fun _ _ _ h => h) (Or.inl ⟨by rfl, ?_⟩) ?_
      · intro w; go_simp
      refine wpAny_take (i := 10) (v := .pointer (some ⟨mR, 0, none⟩)) rfl (by kernel_rfl) (by kernel_rfl) (by kernel_rfl) (fun _ _ _ h => h) (Or.inl ⟨by rfl, ?_⟩) ?_
      · intro w; go_simp
      refine wpAny_take (i := 11) (v := .pointer (some ⟨mR, 0, none⟩)) rfl (by kernel_rfl) (by kernel_rfl) (by kernel_rfl) (fun _ _ _ h => h) (Or.inl ⟨by rfl, ?_⟩) ?_
      · intro w; go_simp
      refine wpAny_take (i := 12) (v := .pointer (some ⟨mR, 39, none⟩)) rfl (by kernel_rfl) (by kernel_rfl) (by kernel_rfl) (fun _ _ _ h => h) (Or.inl ⟨by rfl, ?_⟩) ?_
      · intro w; go_simp
      refine wpAny_ready (rs := [9, 13]) (by kernel_rfl) (by simp) ?_
      refine AllReady.cons rfl (fun K hK => ?_) (AllReady.cons rfl (fun K hK => ?_) AllReady.nil)
      · go_simp
        refine Calls.mono (HCP.out w6 HB46.out) ?_
        rintro e w7 ⟨v1, ss1, rfl, hP1, hs1, hB7⟩
        try go_simp
        refine hK _ _ ?_
        clear hK K
        have hB47 := HB46.out.trans (hB7.mono HB46.out.size)
        have hl1 : ss1.length = sA.fs.length := by have := congrArg List.length hs1; simpa [sortF_length] using this
        obtain ⟨PA1, pc1, hv1, hp1⟩ := hP1.pgs (by have := HLA.out; omega)
        subst hv1
        rw [hl1]
        have HP7 := Lib.hid (And.intro hp1 (And.intro hl1 (hs1.trans HEq.out)))
        have HB47 := Lib.hid hB47
        clear hP1 hs1 hB7 hp1 hl1 hB47
        refine wpAny_ready (rs := [13]) (by kernel_rfl) (by simp) ?_
        refine AllReady.cons rfl (fun K hK => ?_) AllReady.nil
        have p39 := (HSh.out w7 HB47.out).2.2.1
        go_simp
        refine hK _ _ ?_
        clear hK K
        refine wpAny_ready (rs := [14]) (by kernel_rfl) (by simp) ?_
        refine AllReady.cons rfl (fun K hK => ?_) AllReady.nil
        go_simp
        refine Calls.mono (pPages_same w7 PA1 PR sA.fs.length pc1 pcR ss1 (sR.fs.map frP) HP7.out.1 (HSh.out w7 HB47.out).2.2.2 HP7.out.2.1 HLR.out HP7.out.2.2) ?_
        rintro e w8 ⟨rfl, hB8⟩
        try go_simp
        refine hK _ _ ?_
        clear hK K
        refine wpAny_ready (rs := [15]) (by kernel_rfl) (by simp) ?_
        refine AllReady.cons rfl (fun K hK => ?_) AllReady.nil
        go_simp
        refine hK _ _ ?_
        clear hK K
        refine wpAny_ready (rs := [16]) (by kernel_rfl) (by simp) ?_
        refine AllReady.cons rfl (fun K hK => ?_) AllReady.nil
        go_simp
        refine hK _ _ ?_
        clear hK K
        refine wpAny_ready (rs := [17]) (by kernel_rfl) (by simp) ?_
        refine AllReady.cons rfl (fun K hK => ?_) AllReady.nil
        have hB48 := HB4.out.trans ((HB47.out.trans (hB8.mono HB47.out.size)).mono HB4.out.size)
        go_simp
        refine Calls.mono (HS.out w8 hB48) ?_
        rintro e w9 ⟨rfl, hB9⟩
        try go_simp
        refine hK _ _ ?_
        clear hK K
        refine wpAny_ready (rs := [18]) (by kernel_rfl) (by simp) ?_
        refine AllReady.cons rfl (fun K hK => ?_) AllReady.nil
        go_simp
        refine hK _ _ ?_
        clear hK K
        refine wpAny_ready (rs := [19]) (by kernel_rfl) (by simp) ?_
        refine AllReady.cons rfl (fun K hK => ?_) AllReady.nil
        go_simp
        refine hK _ _ ?_
        clear hK K
        refine wpAny_done (by kernel_rfl) ?_ _
        go_wp2
        go_ret
        exact ⟨rfl, hB48.trans (hB9.mono hB48.size)⟩
      · have p39 := (HSh.out w6 HB46.out).2.2.1
        go_simp
        refine hK _ _ ?_
        clear hK K
        refine wpAny_ready (rs := [9]) (by kernel_rfl) (by simp) ?_
        refine AllReady.cons rfl (fun K hK => ?_) AllReady.nil
        go_simp
        refine Calls.mono (HCP.out w6 HB46.out) ?_
        rintro e w7 ⟨v1, ss1, rfl, hP1, hs1, hB7⟩
        try go_simp
        refine hK _ _ ?_
        clear hK K
        have hB47 := HB46.out.trans (hB7.mono HB46.out.size)
        have hl1 : ss1.length = sA.fs.length := by have := congrArg List.length hs1; simpa [sortF_length] using this
        obtain ⟨PA1, pc1, hv1, hp1⟩ := hP1.pgs (by have := HLA.out; omega)
        subst hv1
        rw [hl1]
        have HP7 := Lib.hid (And.intro hp1 (And.intro hl1 (hs1.trans HEq.out)))
        have HB47 := Lib.hid hB47
        clear hP1 hs1 hB7 hp1 hl1 hB47
        refine wpAny_ready (rs := [14]) (by kernel_rfl) (by simp) ?_
        refine AllReady.cons rfl (fun K hK => ?_) AllReady.nil
        go_simp
        refine Calls.mono (pPages_same w7 PA1 PR sA.fs.length pc1 pcR ss1 (sR.fs.map frP) HP7.out.1 (HSh.out w7 HB47.out).2.2.2 HP7.out.2.1 HLR.out HP7.out.2.2) ?_
        rintro e w8 ⟨rfl, hB8⟩
        try go_simp
        refine hK _ _ ?_
        clear hK K
        refine wpAny_ready (rs := [15]) (by kernel_rfl) (by simp) ?_
        refine AllReady.cons rfl (fun K hK => ?_) AllReady.nil
        go_simp
        refine hK _ _ ?_
        clear hK K
        refine wpAny_ready (rs := [16]) (by kernel_rfl) (by simp) ?_
        refine AllReady.cons rfl (fun K hK => ?_) AllReady.nil
        go_simp
        refine hK _ _ ?_
        clear hK K
        refine wpAny_ready (rs := [17]) (by kernel_rfl) (by simp) ?_
        refine AllReady.cons rfl (fun K hK => ?_) AllReady.nil
        have hB48 := HB4.out.trans ((HB47.out.trans (hB8.mono HB47.out.size)).mono HB4.out.size)
        go_simp
        refine Calls.mono (HS.out w8 hB48) ?_
        rintro e w9 ⟨rfl, hB9⟩
        try go_simp
        refine hK _ _ ?_
        clear hK K
        refine wpAny_ready (rs := [18]) (by kernel_rfl) (by simp) ?_
        refine AllReady.cons rfl (fun K hK => ?_) AllReady.nil
        go_simp
        refine hK _ _ ?_
        clear hK K
        refine wpAny_ready (rs := [19]) (by kernel_rfl) (by simp) ?_
        refine AllReady.cons rfl (fun K hK => ?_) AllReady.nil
        go_simp
        refine hK _ _ ?_
        clear hK K
        refine wpAny_done (by kernel_rfl) ?_ _
        go_wp2
        go_ret
        exact ⟨rfl, hB48.trans (hB9.mono hB48.size)⟩
    · have HRg := Lib.hid (HSh.out w4.drew HBd.out).1
      refine step_loadG rfl 27 (.tmp 56) rfl mR 0 rfl (sA.c.cells (.slice A2 sA.c.out.length k2)) _ HRg.out Tryz.underlying27 rfl HSZ.out ?_
      refine hK _ _ ?_
      clear hK K
      refine wpAny_ready (rs := [1]) (by kernel_rfl) (by simp) ?_
      refine AllReady.cons rfl (fun K hK => ?_) AllReady.nil
      go_simp
      refine Calls.mono (HSt.out _ HBd.out) ?_
      rintro e w5 ⟨A1, k1, rfl, hO5, hB5⟩
      try go_simp
      refine hK _ _ ?_
      clear hK K
      have HO5 := Lib.hid hO5
      have HB45 := Lib.hid ((HBd.out).trans (hB5.mono (HBd.out).size))
      clear hO5 hB5
      refine wpAny_ready (rs := [6]) (by kernel_rfl) (by simp) ?_
      refine AllReady.cons rfl (fun K hK => ?_) AllReady.nil
      go_simp
      refine Calls.mono (pCpu_eq w5 sA.c A1 A2 k1 k2 HL2.out HO5.out (HSh.out w5 HB45.out).2.1) ?_
      rintro e w6 ⟨rfl, hB6⟩
      try go_simp
      refine hK _ _ ?_
      clear hK K
      have HB46 := Lib.hid (HB45.out.trans (hB6.mono HB45.out.size))
      clear hB6
      refine wpAny_take (i := 7) (v := .bool true) rfl (by kernel_rfl) (by kernel_rfl) (by kernel_rfl) (fun _ _ _ h => h) (Or.inl ⟨by rfl, ?_⟩) ?_
      · intro w; go_simp
      refine wpAny_take (i := 8) (v := .pointer (some ⟨mA, 0, none⟩)) rfl (by kernel_rfl) (by kernel_rfl) (by kernel_rfl) (fun _ _ _ h => h) (Or.inl ⟨by rfl, ?_⟩) ?_
      · intro w; go_simp
      refine wpAny_take (i := 10) (v := .pointer (some ⟨mR, 0, none⟩)) rfl (by kernel_rfl) (by kernel_rfl) (by kernel_rfl) (fun _ _ _ h => h) (Or.inl ⟨by rfl, ?_⟩) ?_
      · intro w; go_simp
      refine wpAny_take (i := 11) (v := .pointer (some ⟨mR, 0, none⟩)) rfl (by kernel_rfl) (by kernel_rfl) (by kernel_rfl) (fun _ _ _ h => h) (Or.inl ⟨by rfl, ?_⟩) ?_
      · intro w; go_simp
      refine wpAny_take (i := 12) (v := .pointer (some ⟨mR, 39, none⟩)) rfl (by kernel_rfl) (by kernel_rfl) (by kernel_rfl) (fun _ _ _ h => h) (Or.inl ⟨by rfl, ?_⟩) ?_
      · intro w; go_simp
      refine wpAny_ready (rs := [9, 13]) (by kernel_rfl) (by simp) ?_
      refine AllReady.cons rfl (fun K hK => ?_) (AllReady.cons rfl (fun K hK => ?_) AllReady.nil)
      · go_simp
        refine Calls.mono (HCP.out w6 HB46.out) ?_
        rintro e w7 ⟨v1, ss1, rfl, hP1, hs1, hB7⟩
        try go_simp
        refine hK _ _ ?_
        clear hK K
        have hB47 := HB46.out.trans (hB7.mono HB46.out.size)
        have hl1 : ss1.length = sA.fs.length := by have := congrArg List.length hs1; simpa [sortF_length] using this
        obtain ⟨PA1, pc1, hv1, hp1⟩ := hP1.pgs (by have := HLA.out; omega)
        subst hv1
        rw [hl1]
        have HP7 := Lib.hid (And.intro hp1 (And.intro hl1 (hs1.trans HEq.out)))
        have HB47 := Lib.hid hB47
        clear hP1 hs1 hB7 hp1 hl1 hB47
        refine wpAny_ready (rs := [13]) (by kernel_rfl) (by simp) ?_
        refine AllReady.cons rfl (fun K hK => ?_) AllReady.nil
        have p39 := (HSh.out w7 HB47.out).2.2.1
        go_simp
        refine hK _ _ ?_
        clear hK K
        refine wpAny_ready (rs := [14]) (by kernel_rfl) (by simp) ?_
        refine AllReady.cons rfl (fun K hK => ?_) AllReady.nil
        go_simp
        refine Calls.mono (pPages_same w7 PA1 PR sA.fs.length pc1 pcR ss1 (sR.fs.map frP) HP7.out.1 (HSh.out w7 HB47.out).2.2.2 HP7.out.2.1 HLR.out HP7.out.2.2) ?_
        rintro e w8 ⟨rfl, hB8⟩
        try go_simp
        refine hK _ _ ?_
        clear hK K
        refine wpAny_ready (rs := [15]) (by kernel_rfl) (by simp) ?_
        refine AllReady.cons rfl (fun K hK => ?_) AllReady.nil
        go_simp
        refine hK _ _ ?_
        clear hK K
        refine wpAny_ready (rs := [16]) (by kernel_rfl) (by simp) ?_
        refine AllReady.cons rfl (fun K hK => ?_) AllReady.nil
        go_simp
        refine hK _ _ ?_
        clear hK K
        refine wpAny_ready (rs := [17]) (by kernel_rfl) (by simp) ?_
        refine AllReady.cons rfl (fun K hK => ?_) AllReady.nil
        have hB48 := HB4.out.trans ((HB47.out.trans (hB8.mono HB47.out.size)).mono HB4.out.size)
        go_simp
        refine Calls.mono (HS.out w8 hB48) ?_
        rintro e w9 ⟨rfl, hB9⟩
        try go_simp
        refine hK _ _ ?_
        clear hK K
        refine wpAny_ready (rs := [18]) (by kernel_rfl) (by simp) ?_
        refine AllReady.cons rfl (fun K hK => ?_) AllReady.nil
        go_simp
        refine hK _ _ ?_
        clear hK K
        refine wpAny_ready (rs := [19]) (by kernel_rfl) (by simp) ?_
        refine AllReady.cons rfl (fun K hK => ?_) AllReady.nil
        go_simp
        refine hK _ _ ?_
        clear hK K
        refine wpAny_done (by kernel_rfl) ?_ _
        go_wp2
        go_ret
        exact ⟨rfl, hB48.trans (hB9.mono hB48.size)⟩
      · have p39 := (HSh.out w6 HB46.out).2.2.1
        go_simp
        refine hK _ _ ?_
        clear hK K
        refine wpAny_ready (rs := [9]) (by kernel_rfl) (by simp) ?_
        refine AllReady.cons rfl (fun K hK => ?_) AllReady.nil
        go_simp
        refine Calls.mono (HCP.out w6 HB46.out) ?_
        rintro e w7 ⟨v1, ss1, rfl, hP1, hs1, hB7⟩
        try go_simp
        refine hK _ _ ?_
        clear hK K
        have hB47 := HB46.out.trans (hB7.mono HB46.out.size)
        have hl1 : ss1.length = sA.fs.length := by have := congrArg List.length hs1; simpa [sortF_length] using this
        obtain ⟨PA1, pc1, hv1, hp1⟩ := hP1.pgs (by have := HLA.out; omega)
        subst hv1
        rw [hl1]
        have HP7 := Lib.hid (And.intro hp1 (And.intro hl1 (hs1.trans HEq.out)))
        have HB47 := Lib.hid hB47
        clear hP1 hs1 hB7 hp1 hl1 hB47
        refine wpAny_ready (rs := [14]) (by kernel_rfl) (by simp) ?_
        refine AllReady.cons rfl (fun K hK => ?_) AllReady.nil
        go_simp
        refine Calls.mono (pPages_same w7 PA1 PR sA.fs.length pc1 pcR ss1 (sR.fs.map frP) HP7.out.1 (HSh.out w7 HB47.out).2.2.2 HP7.out.2.1 HLR.out HP7.out.2.2) ?_
        rintro e w8 ⟨rfl, hB8⟩
        try go_simp
        refine hK _ _ ?_
        clear hK K
        refine wpAny_ready (rs := [15]) (by kernel_rfl) (by simp) ?_
        refine AllReady.cons rfl (fun K hK => ?_) AllReady.nil
        go_simp
        refine hK _ _ ?_
        clear hK K
        refine wpAny_ready (rs := [16]) (by kernel_rfl) (by simp) ?_
        refine AllReady.cons rfl (fun K hK => ?_) AllReady.nil
        go_simp
        refine hK _ _ ?_
        clear hK K
        refine wpAny_ready (rs := [17]) (by kernel_rfl) (by simp) ?_
        refine AllReady.cons rfl (fun K hK => ?_) AllReady.nil
        have hB48 := HB4.out.trans ((HB47.out.trans (hB8.mono HB47.out.size)).mono HB4.out.size)
        go_simp
        refine Calls.mono (HS.out w8 hB48) ?_
        rintro e w9 ⟨rfl, hB9⟩
        try go_simp
        refine hK _ _ ?_
        clear hK K
        refine wpAny_ready (rs := [18]) (by kernel_rfl) (by simp) ?_
        refine AllReady.cons rfl (fun K hK => ?_) AllReady.nil
        go_simp
        refine hK _ _ ?_
        clear hK K
        refine wpAny_ready (rs := [19]) (by kernel_rfl) (by simp) ?_
        refine AllReady.cons rfl (fun K hK => ?_) AllReady.nil
        go_simp
        refine hK _ _ ?_
        clear hK K
        refine wpAny_done (by kernel_rfl) ?_ _
        go_wp2
        go_ret
        exact ⟨rfl, hB48.trans (hB9.mono hB48.size)⟩
end Go.Proofs
