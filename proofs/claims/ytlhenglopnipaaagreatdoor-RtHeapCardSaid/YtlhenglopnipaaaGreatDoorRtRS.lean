/- patinalaw10.run: what a machine does with the runtime and a main. -/
import Derived.Test.YtlhenglopnipaaaGreatDoorRtLY
import Derived.Test.YtlhenglopnipaaaGreatDoorRtAE
import Derived.Test.YtlhenglopnipaaaGreatDoorRtFJ
import Derived.Test.YtlhenglopnipaaaGreatDoorCodeA
import Derived.Test.YtlhenglopnipaaaGreatDoorSaids
import Derived.Test.YtlhenglopnipaaaGreatDoorRuns
import Derived.Test.YtlhenglopnipaaaGreatDoorNews
import Derived.Lib.SlBytesRow
import Derived.Lib.BufferRead
namespace Go.Pat
open Go Go.RowKit Go.Proofs
def c0 : Mc := ⟨65536, List.replicate 32 0, 0, false, 0, 0, [], 0⟩
theorem c0_cells : (c0.cells (.slice none 0 0)).toArray = cpuA 65536 := rfl
end Go.Pat
namespace Go.Proofs
open Go Go.RowKit Go.Pat
theorem results_cpu6 (fn : Func) (hf : fn.results = #[.cell 6 37, .tmp 7]) (tmps : Array Value) (b : Nat) (cs : Array Value) (W : World) (v3 : Value) (h2 : tmps[6]?.getD undef = .pointer (some ⟨b, 0, none⟩)) (h3 : tmps[7]?.getD undef = v3)
    (hb : W.heap[b]? = some (.cells cs 37 (0, 0))) (hn : cs.size = 39) : (results fn tmps).run Tryz.prog W = .ok (.tuple #[.agg cs, v3]) W := by
  have hl := cpu_loadL b cs W hb hn
  unfold results
  rw [hf]
  simp [h2, h3, asAddr, hl]
/-- what run tells. -/
def RunsTo (Q : Mc → Prop) (n : Nat) (w : World) (e : Ending) (w' : World) : Prop :=
  ∃ (c : Mc) (ov : Value), e = .returned (.tuple #[.agg (c.cells ov).toArray, .bool true]) ∧ c.regs.length = 32 ∧ Q c ∧ OwnB w' w.heap.size ov c.out ∧ c.out.length ≤ n ∧ Below w.heap.size w w'
set_option maxRecDepth 20000 in
set_option maxHeartbeats 32000000 in
theorem l10run_any (w : World) (LA : Option Addr) (lc : Nat) (l : List It) (C : List In) (IA : Option Addr) (ic : Nat) (inp : List UInt8) (n : Nat) (Q : Mc → Prop) (hLay : Asmd l C)
    (hl : Cs w.heap.size w LA (tcells l)) (hI : Bs w.heap.size w IA inp) (hil : inp.length ≤ 140737488355328) (htz : TzTab w) (hrv : RvRows w) (hn : n ≤ 1000000000)
    (hQ : ∀ fs : List Fr, fs.map Fr.pg = loadT (img3 (insB (allC C))) 3 → lens fs → Q (runM n ⟨c0, fs, inp⟩).2.c) :
    Calls Tryz.prog 13 #[.slice LA l.length lc, .slice IA inp.length ic, .int .i64 (n : Int)] w (RunsTo Q n w) := by
  have hlen := hLay.len
  have hC := hLay.clen
  obtain ⟨W0, hW0⟩ : ∃ W : World, W = w.alloc (.cells #[.int .u64 0, .int .u64 0, .int .u64 0, .int .u64 0, .int .u64 0, .int .u64 0, .int .u64 0, .int .u64 0, .int .u64 0, .int .u64 0, .int .u64 0, .int .u64 0, .int .u64 0, .int .u64 0, .int .u64 0, .int .u64 0, .int .u64 0, .int .u64 0, .int .u64 0, .int .u64 0, .int .u64 0, .int .u64 0, .int .u64 0, .int .u64 0, .int .u64 0, .int .u64 0, .int .u64 0, .int .u64 0, .int .u64 0, .int .u64 0, .int .u64 0, .int .u64 0, .int .u64 0, .int .i64 0, .bool false, .int .i64 0, .int .i64 0, .slice none 0 0, .int .i64 0] 37) := ⟨_, rfl⟩
  have hr0 : W0.heap[w.heap.size]? = some (.cells cpuZ 37 (0, 0)) := by rw [hW0]; exact heap_alloc_new w _
  have hB0 : Below w.heap.size w W0 := by rw [hW0]; exact (Below.refl _ _).alloc (Nat.le_refl _) _
  have hs0 : W0.heap.size = w.heap.size + 1 := by rw [hW0, World.size_alloc]
  have HW := Lib.hid hW0
  have HR := Lib.hid (And.intro hr0 (And.intro hB0 hs0))
  have HL := Lib.hid (And.intro hl (And.intro hI (And.intro htz hrv)))
  have HQ := Lib.hid hQ
  clear hW0 hr0 hB0 hs0 hl hI htz hrv hQ
  go_enter Tryz.func13, Tryz.ntmps13
  go_upto_region 1 with fail
  rw [← HW.out]
  go_wp2_with fail
  refine Calls.mono (rtText_any _) ?_
  rintro e w1 ⟨TA, tc, rfl, hT1, hB1⟩
  have ho1 : OwnT (W0.alloc (.cells #[] 28)) W0.heap.size (.slice (some ⟨W0.heap.size, 0, none⟩) 0 0) [] := World.ownsRow_lit W0 (tcells []).toArray 0 (Nat.le_refl _) (by decide) rfl
  have ho2 : OwnT w1 W0.heap.size (.slice (some ⟨W0.heap.size, 0, none⟩) 0 0) [] := ho1.below hB1
  have hT2 := hT1.form
  obtain ⟨TA2, tc2, ht2, hTc⟩ := hT2
  cases ht2
  have hs1 : W0.heap.size + 1 ≤ w1.heap.size := by have := hB1.size; rw [World.size_alloc] at this; exact this
  go_wp2_with (at_builtin; refine wpList_app _ rfl _ _ 24 rfl Tryz_elTs W0.heap.size _ 0 (tcells []) (by exact rfl) ho2 w1.heap.size TA _ tc (tcells rtText) (by exact rfl) (tcells_length rtText) hTc (tcells_one rtText) (by decide) (by decide) (by omega) ?_)
  intro v3 w3 h3 hg3 hn3 ha3
  have hB3 : Below W0.heap.size W0 w3 := ((Below.refl _ _).alloc (Nat.le_refl _) _ |>.trans (hB1.mono (by rw [World.size_alloc]; omega))).grown hg3 (by omega) (fun k hk => (ho2.lt k hk).1)
  have ho3 : OwnT w3 W0.heap.size v3 rtText := by unfold OwnT; exact h3
  obtain ⟨A3, c3, rfl, -⟩ := ho3.form
  clear h3 hg3 hn3 ha3 ho1 ho2 hT1 hTc hB1
  have hBw3 : Below w.heap.size w w3 := HR.out.2.1.trans (hB3.mono HR.out.2.1.size)
  have HO3 := Lib.hid ho3
  clear ho3
  go_wp2_with fail
  refine Calls.mono (l10body_any w3 LA lc l ((HL.out.1.below hBw3).more hBw3.size) (by omega)) ?_
  rintro e w4 ⟨A4, c4, rfl, hO4, hB4⟩
  have hB04 : Below W0.heap.size W0 w4 := hB3.trans (hB4.mono hB3.size)
  obtain ⟨A4', c4', e4, hT4⟩ := hO4.form
  cases e4
  have ho4 : OwnT w4 W0.heap.size (.slice A3 rtText.length c3) rtText := HO3.out.below hB4
  have hs4 := hB04.size
  have hbl : (bodyL l).length = l.length + 6 := by simp [bodyL, mainHead, mainTail]
  have HBL := Lib.hid hbl
  clear hbl hO4
  go_wp2_with (at_builtin; refine wpList_app _ rfl _ _ 24 rfl Tryz_elTs W0.heap.size _ rtText.length (tcells rtText) (by exact rfl) ho4 w4.heap.size A4 _ c4 (tcells (bodyL l)) (by exact rfl) (tcells_length (bodyL l)) hT4 (tcells_one (bodyL l)) (by rw [HBL.out, rt_size1]; simp only [maxLen]; omega) (by rw [HBL.out, rt_size1]; omega) hs4 ?_)
  intro v5 w5 h5 hg5 hn5 ha5
  have hB5 : Below W0.heap.size W0 w5 := hB04.grown hg5 hs4 (fun k hk => (ho4.lt k hk).1)
  have ho5 : OwnT w5 W0.heap.size v5 (rtText ++ bodyL l) := by unfold OwnT; rw [tcells_append, List.length_append]; exact h5
  obtain ⟨A5, c5, rfl, hT5⟩ := ho5.form
  clear h5 hg5 hn5 ha5 ho4 hT4 ho5
  have hBz5 := hB5
  have hBw5 : Below w.heap.size w w5 := HR.out.2.1.trans (hB5.mono HR.out.2.1.size)
  go_wp2_with fail
  refine Calls.mono (rtData_any w5) ?_
  rintro e w6 ⟨A6, c6, rfl, hO6, hB6⟩
  obtain ⟨A6', c6', e6, hT6⟩ := hO6.form
  cases e6
  have hBz6 : Below W0.heap.size W0 w6 := hBz5.trans (hB6.mono hBz5.size)
  have hBw6 : Below w.heap.size w w6 := HR.out.2.1.trans (hBz6.mono HR.out.2.1.size)
  have hT5' := (hT5.below hB6).more hB6.size
  clear hO6 hT5
  go_wp2_with fail
  have HNM := Lib.hid hLay.num
  rw [← List.length_append]
  have htl : (rtText ++ bodyL l).length ≤ 100100 := by rw [List.length_append, HBL.out, rt_size1]; omega
  refine Calls.mono (aAsm_any w6 A5 c5 (rtText ++ bodyL l) A6 c6 rtData 65536 16777216 hT5' hT6 (fun x hx => Nat.le_trans (HNM.out x hx).2 (by decide)) (fun x hx => (HNM.out x hx).1) (HL.out.2.2.1.below (hBw6.mono (Nat.le_refl _))) (HL.out.2.2.2.below hBw6) (Nat.le_trans htl (by decide)) (by decide) (by decide) (by decide)) ?_
  rintro e w7 ⟨hB7, S, hS, hm⟩
  obtain ⟨labs, ha, hfd, hix, hll⟩ := hLay.asm S hS
  rw [ha] at hm
  simp only at hm
  obtain ⟨vt, vd, vl, rfl, hvt, hvd, hvl⟩ := hm
  obtain ⟨T, hT⟩ : ∃ T, T = insB (allC C) := ⟨_, rfl⟩
  obtain ⟨D, hD⟩ : ∃ D, D = dataM rtData := ⟨_, rfl⟩
  rw [← hT] at hvt
  rw [← hD] at hvd
  obtain ⟨At, ct, rfl, hbt⟩ := hvt.form
  obtain ⟨Ad, cd, rfl, hbd⟩ := hvd.form
  obtain ⟨Al, cl, rfl, hbl⟩ := hvl.form
  have hTl : T.length = 4 * (83 + C.length) := by rw [hT, insB_length4, allC_len]
  have hDl : D.length = 131120 := by rw [hD, data_is, List.length_replicate]
  have hBz7 : Below W0.heap.size W0 w7 := hBz6.trans (hB7.mono hBz6.size)
  have hBw7 : Below w.heap.size w w7 := HR.out.2.1.trans (hBz7.mono HR.out.2.1.size)
  have HF := Lib.hid (And.intro hfd (And.intro hix (And.intro hll (And.intro hT (And.intro hD (And.intro hTl hDl))))))
  clear hfd hix hll hT hD hTl hDl ha hS hvt hvd hvl hT5' hT6
  go_wp2_with fail
  have hB7a : Below w7.heap.size w7 (w7.alloc (.cells #[.slice At T.length ct, .slice Ad D.length cd, .slice Al labs.length cl] 53)) := (Below.refl _ _).alloc (Nat.le_refl _) _
  refine Calls.mono (rtImage_any _ At Ad Al ct cd cl T D labs ((hbt.below hB7a).mono hB7a.size) ((hbd.below hB7a).mono hB7a.size) ((hbl.below hB7a).more hB7a.size) (by have := HF.out.2.2.1; omega)) ?_
  rintro e w8 ⟨hB8, hi⟩
  have hBz8 : Below W0.heap.size W0 w8 := hBz7.trans ((hB7a.trans (hB8.mono hB7a.size)).mono hBz7.size)
  have hBw8 : Below w.heap.size w w8 := HR.out.2.1.trans (hBz8.mono HR.out.2.1.size)
  rcases hi with ⟨hbad, -⟩ | ⟨-, vs, ss, rfl, hO8, hss⟩
  · exfalso
    obtain ⟨-, hix, -, -, -, hTl, hDl⟩ := HF.out
    unfold imgB at hbad
    rw [hix, hDl] at hbad
    simp only [Bool.or_eq_true, decide_eq_true_eq] at hbad
    omega
  rw [HF.out.1]
  have hss2 : ss.map Sg.d = img3 T := by rw [hss, HF.out.2.2.2.2.1, img3_is]
  have hsl : ss.length = 3 := by have := congrArg List.length hss2; rw [List.length_map] at this; exact this
  obtain ⟨As, cs, rfl, hS8⟩ := hO8.sgs (by omega)
  rw [hsl]
  have HS := Lib.hid (And.intro hss2 (And.intro hsl hS8))
  clear hss hss2 hsl hS8 hO8 hbt hbd hbl hB8 hB7a
  go_wp2_with fail
  have hB8a : Below w8.heap.size w8 (w8.alloc (.cells #[.int .u64 65536, .slice As 3 cs] 59)) := (Below.refl _ _).alloc (Nat.le_refl _) _
  refine Calls.mono (eLoad_any _ As cs 65536 3 ss ((HS.out.2.2.below hB8a).mono hB8a.size) HS.out.2.1 (by decide)) ?_
  intro e w9 hL9
  obtain ⟨en9, er9, n9, c9, A9, ps9, hq9, rfl, hp9, rfl, hm9, hB9⟩ := loadE_open hL9
  rw [HS.out.1] at hq9
  have hck : checkE 65536 (img3 T) = 0 := img3_ok _ (by rw [HF.out.2.2.2.2.2.1]; omega) (by rw [HF.out.2.2.2.2.2.1]; omega)
  unfold loadQ at hq9
  rw [if_pos hck] at hq9
  simp only [Prod.mk.injEq] at hq9
  obtain ⟨rfl, rfl, hpg⟩ := hq9
  have hBz9 : Below W0.heap.size W0 w9 := hBz8.trans ((hB8a.trans (hB9.mono hB8a.size)).mono hBz8.size)
  have hBw9 : Below w.heap.size w w9 := HR.out.2.1.trans (hBz9.mono HR.out.2.1.size)
  have HP := Lib.hid (And.intro hck hpg)
  clear hck hpg hL9 hB8a hB9
  have hsz : (Tryz.prog.info? 37).map (·.size) = some (c0.cells (.slice none 0 0)).length := by rw [ccells_len rfl]; exact Tryz_sizeCpu2
  have HZ := Lib.hid hsz
  clear hsz
  go_wp2_with (first
    | (refine wpList_store_row (o := ⟨none, Op.store 37 (.tmp 13) (.tmp 44), _, _, _, _⟩) rfl 37 (.tmp 13) (.tmp 44) rfl w9.heap.size (cpuA 65536) rfl rfl 37 _ (heap_alloc_new w9 _) Tryz_sizeCpuL rfl (cpu_one 65536) ?_
       generalize hW10 : World.setRow _ _ _ = W10
       have hB10 : Below w9.heap.size w9 W10 := by rw [← hW10]; exact below_setRow ((Below.refl _ _).alloc (Nat.le_refl _) _) (Nat.le_refl _) _
       have hr10 : W10.heap[w9.heap.size]? = some (.cells (cpuA 65536) 37 (0, 0)) := by rw [← hW10]; exact setRow_heap _ _ _ _ _ _ (heap_alloc_new w9 _)
       have hx10 : W10.rangeAt w9.heap.size 0 (c0.cells (.slice none 0 0)) := fun j v hv => (obj_cell hr10 (0 + j)).trans (by rw [Nat.zero_add, ← c0_cells, List.getElem?_toArray]; exact hv)
       have HX := Lib.hid hx10
       clear hW10 hr10 hx10)
    | (refine wpList_load_want (op := ⟨some 51, _, _, _, _, _⟩) rfl 37 (.tmp 13) rfl w9.heap.size 0 rfl (c0.cells (.slice none 0 0)) _ HX.out Tryz.underlying37 rfl HZ.out ?_))
  have hBz10 : Below W0.heap.size W0 W10 := hBz9.trans (hB10.mono hBz9.size)
  have hBw10 : Below w.heap.size w W10 := HR.out.2.1.trans (hBz10.mono HR.out.2.1.size)
  refine Calls.mono (New_any3 W10 c0 none A9 IA 0 c9 ic ps9 inp rfl (fun i => by
    unfold Mc.reg c0
    simp only [List.getD_eq_getElem?_getD, List.getElem?_replicate]
    split <;> decide) (by decide) (fun i hi => absurd hi (Nat.not_lt_zero i)) (by decide) (PgsAt.mono (hp9.below hB10) hB10.size) ((HL.out.2.1.below hBw10).mono hBw10.size) hil) ?_
  intro e w11 hN
  obtain ⟨hB11, hN⟩ := hN
  have hfr : fromE (ps9.map PgIn.pg) = 0 := by rw [← HP.out.2]; exact load_from HP.out.1
  have hrt : rightB c0 inp.length = true := by
    unfold rightB rightG
    show (true && (true && (true && (true && (true && (decide ((0 : Int) ≤ (inp.length : Int)) && true)))))) = true
    rw [decide_eq_true (by omega)]
    rfl
  rcases hN with ⟨hE, -⟩ | ⟨-, hE, -⟩ | ⟨-, -, m, p, mb, ov, iv, fs, rfl, hM, hpgs, hmine, hp, hmb, hiv⟩
  · rw [hrt] at hE; cases hE
  · exact absurd hfr hE
  have hBz11 : Below W0.heap.size W0 w11 := hBz10.trans (hB11.mono hBz10.size)
  have hBw11 : Below w.heap.size w w11 := HR.out.2.1.trans (hBz11.mono HR.out.2.1.size)
  have hfs : fs.map Fr.pg = loadT (img3 T) 3 := hpgs.trans HP.out.2.symm
  obtain ⟨⟨r12, s12⟩, hr12⟩ : ∃ r, r = runM n ⟨c0, fs, inp⟩ := ⟨_, rfl⟩
  have hq := HQ.out fs (by rw [← HF.out.2.2.2.1]; exact hfs) hM.mem.lens
  have ho := (runM_out n ⟨c0, fs, inp⟩).1
  rw [← hr12] at hq ho
  simp only at hq ho
  have hrow := HL.out.2.2.2.1
  have hWs := hBw10.size
  have HM := Lib.hid (And.intro hM (And.intro hmine (And.intro hq ho)))
  have HRn := Lib.hid (Run_any w11 m p mb ov iv ⟨c0, fs, inp⟩ n hM (HL.out.2.2.2.below hBw11) (fun h => by have := hmine _ h; omega) (by omega) (by show 0 + n ≤ _; omega))
  have HR12 := Lib.hid hr12
  have hs11 := hB11.size
  clear hfr hrt hM hpgs hmine hp hmb hiv hfs hq ho hr12 hB11
  go_wp2_with fail
  refine Calls.mono HRn.out ?_
  rintro e w12 ⟨rfl, ov12, hM12, hK12, -, -⟩
  rw [← HR12.out] at hM12
  simp only at hM12
  have hB12 : Below W10.heap.size w11 w12 := hK12.below (hs11) HM.out.2.1
  have hBz12 : Below W0.heap.size W0 w12 := hBz11.trans (hB12.mono hBz10.size)
  have hBw12 : Below w.heap.size w w12 := HR.out.2.1.trans (hBz12.mono HR.out.2.1.size)
  rw [← HR12.out]
  clear hK12 hB12
  go_wp2_with fail
  refine Calls.mono (State_any w12 m p mb ov12 iv s12 hM12 (by have := HM.out.2.2.2; show s12.c.out.length ≤ _; have h0 : c0.out.length = 0 := rfl; omega)) ?_
  rintro e w13 ⟨ov13, rfl, hO13, hB13⟩
  have hBz13 : Below W0.heap.size W0 w13 := hBz12.trans (hB13.mono hBz12.size)
  have hBw13 : Below w.heap.size w w13 := HR.out.2.1.trans (hBz13.mono HR.out.2.1.size)
  have hk13 : w13.heap[w.heap.size]? = some (.cells cpuZ 37 (0, 0)) := (hBz13.block w.heap.size (by have := HR.out.2.2; omega)).trans HR.out.1
  obtain ⟨ds, hds⟩ : ∃ ds, ds = (s12.c.cells ov13).toArray := ⟨_, rfl⟩
  have hlen12 := hM12.len
  have hone : ds.all (·.oneCell') = true := by rw [hds]; exact cells_oneA hO13.one
  have hdz : ds.size = 39 := by rw [hds, List.size_toArray, ccells_len hlen12]
  have hin : (Tryz.prog.info? 37).map (·.size) = some ds.size := by rw [hdz]; exact Tryz_sizeCpu2
  have hold : cpuZ.size = ds.size := by rw [hdz]; rfl
  have HK := Lib.hid (And.intro hk13 (And.intro hin (And.intro hold (And.intro hone (And.intro hds (And.intro hO13 (And.intro hlen12 (And.intro hBw13 hdz))))))))
  rw [← hds]
  have hBw12s := hBw12.size
  have hB13s := hB13.size
  clear hk13 hin hold hone hdz hds hO13 hlen12 hBz13 hM12 hB13
  go_wp2_with (refine wpList_store_row (o := ⟨none, Op.store 37 (.tmp 6) (.tmp 64), _, _, _, _⟩) rfl 37 (.tmp 6) (.tmp 64) rfl w.heap.size ds rfl rfl 37 _ HK.out.1 HK.out.2.1 HK.out.2.2.1 HK.out.2.2.2.1 ?_
               generalize hW14 : World.setRow _ _ _ = W14
               have hr14 : W14.heap[w.heap.size]? = some (.cells ds 37 (0, 0)) := by rw [← hW14]; exact setRow_heap _ _ _ _ _ _ HK.out.1
               have hk14 : ∀ g, g ≠ w.heap.size → W14.heap[g]? = w13.heap[g]? := fun g hg => by rw [← hW14]; exact setRow_other _ _ _ _ hg
               have hB14 : Below w.heap.size w W14 := by rw [← hW14]; exact below_setRow HK.out.2.2.2.2.2.2.2.1 (Nat.le_refl _) _
               clear hW14)
  refine bodyPost_ret (results_cpu6 _ rfl _ w.heap.size ds _ (.bool true) rfl rfl hr14 HK.out.2.2.2.2.2.2.2.2) rfl ?_
  refine ⟨s12.c, ov13, by rw [HK.out.2.2.2.2.1], HK.out.2.2.2.2.2.2.1, HM.out.2.2.1, ?_, ?_, hB14⟩
  · refine (HK.out.2.2.2.2.2.1.keep fun g hg => hk14 g ?_).base hBw12s
    have h1 := (HK.out.2.2.2.2.2.1.block hg).1
    have h2 := hBz12.size
    have h3 := HR.out.2.2
    omega
  · have h1 := HM.out.2.2.2
    have h0 : c0.out.length = 0 := rfl
    omega
end Go.Proofs

/- patinalaw10.speaks: true. -/
namespace Go.Proofs
open Go Go.RowKit Go.Pat
theorem Tryz_und_string : Tryz.prog.underlying 9 = some .string := by kernel_rfl
theorem Tryz_und_u8s : Tryz.prog.underlying 5 = some (.int .u8) := by kernel_rfl
/-- string(b) of bytes of the call's own. -/
theorem conv_own {W : World} {base : Nat} {v : Value} {l : List UInt8} (h : OwnB W base v l) : (convert 35 9 v).run Tryz.prog W = .ok (.string ⟨l.toArray⟩) W := by
  obtain ⟨A, c, rfl, hb⟩ := h.form
  cases l with
  | nil =>
    rcases h.2 with ⟨hv, -⟩ | ⟨g, cap, cur, hv, -⟩
    · rw [hv]
      exact Go.Lib.run_convert_nil_bytes W _ _ 5 0 Tryz.underlying35 Tryz_und_u8s Tryz_und_string
    · rw [hv]
      exact Go.Lib.run_convert_whole W _ 5 _ Tryz.underlying35 Tryz_und_u8s Tryz_und_string g 0 ⟨#[]⟩ (fun i hi => absurd hi (Nat.not_lt_zero i)) cap
  | cons x r =>
    obtain ⟨b, o, rfl, -, -⟩ := hb 0 (by simp [bcells_length])
    refine Go.Lib.run_convert_whole W _ 5 _ Tryz.underlying35 Tryz_und_u8s Tryz_und_string b o ⟨(x :: r).toArray⟩ (fun i hi => ?_) c
    have hi2 : i < (x :: r).length := by simpa [ByteArray.size] using hi
    obtain ⟨b2, o2, e2, -, hc⟩ := hb i (by rw [bcells_length]; exact hi2)
    cases e2
    have e : (bcells (x :: r))[i]'(by rw [bcells_length]; exact hi2) = .int .u8 (((x :: r)[i]).toNat : Int) := by simp only [bcells, List.getElem_map, bval]
    rw [hc, e]
    rfl
theorem l10li_e (rd n : Int) (w : World) : Calls Tryz.prog 10 #[.int .i64 rd, .int .i64 n] w fun e w' => e = .returned (.agg #[.int .i64 3, .string no, .int .i64 0, .int .i64 rd, .int .i64 0, .int .i64 0, .int .i64 n]) ∧ Below w.heap.size w w' := l10li_any rd n w
theorem l10call_e (s : ByteArray) (w : World) : Calls Tryz.prog 11 #[.string s] w fun e w' => e = .returned (.agg #[.int .i64 6, .string s, .int .i64 0, .int .i64 1, .int .i64 0, .int .i64 0, .int .i64 0]) ∧ Below w.heap.size w w' := l10call_any s w
/-- a run that prints. -/
theorem ran_prints (l : List Int) (hl : l.length ≤ 50) (hn : ∀ n ∈ l, i64B n) (inp : List UInt8) (n : Nat) (h : 253 * l.length + 13 ≤ n) :
    Asmd (printsL l) (printsC 65856 l) ∧
    ∀ fs : List Fr, fs.map Fr.pg = loadT (img3 (insB (allC (printsC 65856 l)))) 3 → lens fs → (runM n ⟨c0, fs, inp⟩).2.c.halted = true ∧ (runM n ⟨c0, fs, inp⟩).2.c.code = 0 ∧ (runM n ⟨c0, fs, inp⟩).2.c.fault = 0 ∧ (runM n ⟨c0, fs, inp⟩).2.c.out = printed l := by
  have hL := lay_prints l 65856 (by decide) (by decide) (by omega) hn
  have h1 := printsL_len l
  have h2 := printsC_len l 65856
  have hA := hL.asmd (by omega) (by omega)
  exact ⟨hA, fun fs hfs hlen => main_run hA (prints_body l inp hl hn) hfs hlen n h⟩
/-- what a Cpu's cells say of a machine that ended. -/
theorem ended_cells {W : World} {b : Nat} {c : Mc} {ov : Value} (hr : W.heap[b]? = some (.cells (c.cells ov).toArray 37 (0, 0))) (hl : c.regs.length = 32) :
    W.cell? ⟨b, 34, none⟩ = some (.bool c.halted) ∧ W.cell? ⟨b, 35, none⟩ = some (.int .i64 c.code) ∧ W.cell? ⟨b, 36, none⟩ = some (.int .i64 c.fault) ∧ W.cell? ⟨b, 37, none⟩ = some ov :=
  ⟨(obj_cell hr 34).trans (by rw [List.getElem?_toArray]; exact cget_tail hl 1 (by omega)), (obj_cell hr 35).trans (by rw [List.getElem?_toArray]; exact cget_tail hl 2 (by omega)), (obj_cell hr 36).trans (by rw [List.getElem?_toArray]; exact cget_tail hl 3 (by omega)), (obj_cell hr 37).trans (by rw [List.getElem?_toArray]; exact cget_tail hl 4 (by omega))⟩
theorem printed_5 : printed [-5] = [45, 53, 10] := by decide +kernel
set_option maxRecDepth 20000 in
set_option maxHeartbeats 16000000 in
theorem speaks10_any (w : World) (htz : TzTab w) (hrv : RvRows w) : Calls Tryz.prog 9 #[] w fun e w' => e = .returned (.bool true) ∧ Below w.heap.size w w' := by
  go_enter Tryz.func9, Tryz.ntmps9
  go_wp2_with fail
  refine Calls.mono (l10li_e 10 (-5) w) ?_
  rintro e w1 ⟨rfl, hB1⟩
  go_wp2_with fail
  refine Calls.mono (l10call_e nmPrint w1) ?_
  rintro e w2 ⟨rfl, hB2⟩
  have hB02 : Below w.heap.size w w2 := hB1.trans (hB2.mono hB1.size)
  go_wp2_with fail
  obtain ⟨W3, hW3⟩ : ∃ W3 : World, W3 = w2.alloc (.cells #[.int .i64 3, .string no, .int .i64 0, .int .i64 10, .int .i64 0, .int .i64 0, .int .i64 (-5), .int .i64 6, .string nmPrint, .int .i64 0, .int .i64 1, .int .i64 0, .int .i64 0, .int .i64 0] 28) := ⟨_, rfl⟩
  have hB03 : Below w.heap.size w W3 := by rw [hW3]; exact hB02.alloc hB02.size _
  have hcs : Cs W3.heap.size W3 (some ⟨w2.heap.size, 0, none⟩) (tcells (printsL [-5])) := by rw [hW3]; exact it_lit (printsL [-5]) w2 28
  rw [← hW3]
  obtain ⟨g1, g4⟩ := ran_prints [-5] (by decide) (fun n hn => by obtain rfl := List.mem_singleton.1 hn; exact ⟨by decide, by decide⟩) [] 100000 (by decide)
  have hrun := l10run_any W3 (some ⟨w2.heap.size, 0, none⟩) 2 (printsL [-5]) (printsC 65856 [-5]) none 0 [] 100000 (fun c => c.halted = true ∧ c.code = 0 ∧ c.fault = 0 ∧ c.out = printed [-5]) g1 hcs (fun i hi => absurd hi (Nat.not_lt_zero i)) (by decide) (htz.below hB03) (hrv.below hB03) (by decide) g4
  refine Calls.mono hrun ?_
  rintro e w4 ⟨c, ov, rfl, hlen, ⟨q1, q2, q3, q4⟩, hO, hol, hB4⟩
  have hB04 : Below w.heap.size w w4 := hB03.trans (hB4.mono hB03.size)
  obtain ⟨ds, hds⟩ : ∃ ds, ds = (c.cells ov).toArray := ⟨_, rfl⟩
  have hdz : ds.size = 39 := by rw [hds, List.size_toArray, ccells_len hlen]
  have hin : (Tryz.prog.info? 37).map (·.size) = some ds.size := by rw [hdz]; exact Tryz_sizeCpu2
  have hold : cpuZ.size = ds.size := by rw [hdz]; rfl
  have hone : ds.all (·.oneCell') = true := by rw [hds]; exact cells_oneA hO.one
  have HK := Lib.hid (And.intro hin (And.intro hold (And.intro hone (And.intro hds (And.intro hlen (And.intro q1 (And.intro q2 (And.intro q4 (And.intro hO hB04)))))))))
  rw [← hds]
  have hs4 := hB04.size
  clear hW3 hcs hrun g1 g4 hdz hin hold hone hds hlen q1 q2 q3 q4 hO hol hB4
  go_wp2_with (refine wpList_store_row (o := ⟨none, Op.store 37 (.tmp 1) (.tmp 8), _, _, _, _⟩) rfl 37 (.tmp 1) (.tmp 8) rfl w4.heap.size ds rfl rfl 37 _ (heap_alloc_new w4 _) HK.out.1 HK.out.2.1 HK.out.2.2.1 ?_
               generalize hW5 : World.setRow _ _ _ = W5
               have hr5 : W5.heap[w4.heap.size]? = some (.cells ds 37 (0, 0)) := by rw [← hW5]; exact setRow_heap _ _ _ _ _ _ (heap_alloc_new w4 _)
               have hB5 : Below w4.heap.size w4 W5 := by rw [← hW5]; exact below_setRow ((Below.refl _ _).alloc (Nat.le_refl _) _) (Nat.le_refl _) _
               obtain ⟨x34, x35, x36, x37⟩ := ended_cells (by rw [← HK.out.2.2.2.1]; exact hr5) HK.out.2.2.2.2.1
               rw [HK.out.2.2.2.2.2.1] at x34
               rw [HK.out.2.2.2.2.2.2.1] at x35
               have hcv := conv_own (HK.out.2.2.2.2.2.2.2.2.1.below hB5)
               rw [HK.out.2.2.2.2.2.2.2.1, printed_5] at hcv
               have hlt5 := lt_of_block hr5
               clear hW5 hr5)
  go_ret
  exact ⟨rfl, hB04.trans (hB5.mono hB04.size)⟩
end Go.Proofs
