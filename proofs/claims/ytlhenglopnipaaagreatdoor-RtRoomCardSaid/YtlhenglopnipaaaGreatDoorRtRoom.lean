/- patinalaw10.kept and RtRoom: the walks. -/
import Derived.Test.YtlhenglopnipaaaGreatDoorRtRm
import Derived.Test.YtlhenglopnipaaaGreatDoorRtRS
namespace Go.Pat
open Go Go.RowKit Go.Proofs
end Go.Pat
namespace Go.Proofs
open Go Go.RowKit Go.Pat
def KeptTo (l : List It) (w : World) (e : Ending) (w' : World) : Prop := ∃ A c, e = .returned (.slice A (keptL l).length c) ∧ OwnT w' w.heap.size (.slice A (keptL l).length c) (keptL l) ∧ Below w.heap.size w w'
theorem tcells_kh : (tcells keptHead).toArray = #[.int .i64 2, .string no, .int .i64 22, .int .i64 2, .int .i64 2, .int .i64 0, .int .i64 (-16), .int .i64 2, .string no, .int .i64 21, .int .i64 0, .int .i64 2, .int .i64 9, .int .i64 0, .int .i64 2, .string no, .int .i64 21, .int .i64 0, .int .i64 2, .int .i64 18, .int .i64 8, .int .i64 3, .string no, .int .i64 0, .int .i64 9, .int .i64 0, .int .i64 0, .int .i64 0, .int .i64 3, .string no, .int .i64 0, .int .i64 18, .int .i64 0, .int .i64 0, .int .i64 0] := rfl
theorem tcells_kt : (tcells keptTail).toArray = #[.int .i64 2, .string no, .int .i64 14, .int .i64 9, .int .i64 2, .int .i64 0, .int .i64 0, .int .i64 2, .string no, .int .i64 14, .int .i64 18, .int .i64 2, .int .i64 0, .int .i64 8, .int .i64 2, .string no, .int .i64 22, .int .i64 2, .int .i64 2, .int .i64 0, .int .i64 16] := rfl
set_option maxRecDepth 20000 in
set_option maxHeartbeats 16000000 in
theorem l10kept_any (w : World) (A : Option Addr) (c : Nat) (l : List It) (hl : Cs w.heap.size w A (tcells l)) (hlen : l.length ≤ 1000000) :
    Calls Tryz.prog 15 #[.slice A l.length c] w (KeptTo l w) := by
  go_enter Tryz.func15, Tryz.ntmps15
  go_wp2_with fail
  refine Calls.mono (l10ins_e 22 2 2 0 (-16) _) ?_
  rintro e w1 ⟨rfl, hB1⟩
  go_wp2_with fail
  refine Calls.mono (l10ins_e 21 0 2 9 0 _) ?_
  rintro e w2a ⟨rfl, hB2a⟩
  go_wp2_with fail
  refine Calls.mono (l10ins_e 21 0 2 18 8 _) ?_
  rintro e w2b ⟨rfl, hB2b⟩
  go_wp2_with fail
  refine Calls.mono (l10li_e 9 0 _) ?_
  rintro e w2c ⟨rfl, hB2c⟩
  go_wp2_with fail
  refine Calls.mono (l10li_e 18 0 _) ?_
  rintro e w2 ⟨rfl, hB2⟩
  have hBa : Below w.heap.size w w2a := hB1.trans (hB2a.mono hB1.size)
  have hBb : Below w.heap.size w w2b := hBa.trans (hB2b.mono hBa.size)
  have hBc : Below w.heap.size w w2c := hBb.trans (hB2c.mono hBb.size)
  have hB02 : Below w.heap.size w w2 := hBc.trans (hB2.mono hBc.size)
  have hr3 : Cs w.heap.size (w2.alloc (.cells (tcells keptHead).toArray 28)) A (tcells l) := hl.below (hB02.alloc hB02.size _)
  have ho3 : OwnT (w2.alloc (.cells (tcells keptHead).toArray 28)) w.heap.size (.slice (some ⟨w2.heap.size, 0, none⟩) 5 5) keptHead := World.ownsRow_lit w2 (tcells keptHead).toArray 5 hB02.size (by decide) rfl
  rw [tcells_kh] at hr3 ho3
  have hs3 : w.heap.size ≤ w2.heap.size + 1 := by have := hB02.size; omega
  clear hB1 hB2a hB2b hB2c hB2 hBa hBb hBc
  go_wp2_with (at_builtin; refine wpList_app _ rfl _ _ 24 rfl Tryz_elTs w.heap.size _ 5 (tcells keptHead) (by exact rfl) ho3 w.heap.size A l.length c (tcells l) (by exact rfl) (tcells_length l) hr3 (tcells_one l) (by simp only [maxLen]; omega) (by omega) (by rw [World.size_alloc]; omega) ?_)
  intro v4 w4 h4 hg4 hnil hat
  have hB04 : Below w.heap.size w w4 := (hB02.alloc hB02.size _).grown hg4 (by rw [World.size_alloc]; omega) (fun k hk => (ho3.lt k hk).1)
  have ho4 : OwnT w4 w.heap.size v4 (keptHead ++ l) := by
    unfold OwnT
    rw [tcells_append, List.length_append]
    exact h4
  obtain ⟨A4, c4, hv4, -⟩ := ho4.form
  rw [show (keptHead ++ l).length = l.length + 5 by rw [List.length_append]; simp only [keptHead, List.length_cons, List.length_nil]; omega] at hv4
  subst hv4
  clear h4 hg4 hnil hat ho3 hr3
  have HO := Lib.hid ho4
  clear ho4
  go_wp2_with fail
  refine Calls.mono (l10ins_e 14 9 2 0 0 _) ?_
  rintro e w5 ⟨rfl, hB5⟩
  go_wp2_with fail
  refine Calls.mono (l10ins_e 14 18 2 0 8 _) ?_
  rintro e w6 ⟨rfl, hB6⟩
  go_wp2_with fail
  refine Calls.mono (l10ins_e 22 2 2 0 16 _) ?_
  rintro e w7 ⟨rfl, hB7⟩
  have hB47 : Below w4.heap.size w4 w7 := (hB5.trans (hB6.mono hB5.size)).trans (hB7.mono (Nat.le_trans hB5.size hB6.size))
  have hB07 : Below w.heap.size w w7 := hB04.trans (hB47.mono hB04.size)
  have ho8 : w7.alloc (.cells (tcells keptTail).toArray 28) |>.ownsRow w.heap.size 28 7 (.slice A4 (l.length + 5) c4) (l.length + 5) (tcells (keptHead ++ l)) := by
    have h1 : OwnT w4 w.heap.size (.slice A4 (l.length + 5) c4) (keptHead ++ l) := HO.out
    have h2 := h1.below (hB47.alloc hB47.size (.cells (tcells keptTail).toArray 28))
    unfold OwnT at h2
    rw [show (keptHead ++ l).length = l.length + 5 by rw [List.length_append]; simp only [keptHead, List.length_cons, List.length_nil]; omega] at h2
    exact h2
  have hr8 := it_lit keptTail w7 28
  rw [tcells_kt] at ho8 hr8
  have hs7 := hB07.size
  clear hB5 hB6 hB7
  go_wp2_with (at_builtin; refine wpList_app _ rfl _ _ 24 rfl Tryz_elTs w.heap.size (.slice A4 (l.length + 5) c4) (l.length + 5) (tcells (keptHead ++ l)) (by exact rfl) ho8 _ (some ⟨w7.heap.size, 0, none⟩) 3 3 (tcells keptTail) (by exact rfl) (by exact rfl) hr8 (tcells_one keptTail) (by simp only [maxLen]; omega) (by omega) (by rw [World.size_alloc]; omega) ?_)
  intro v9 w9 h9 hg9 hnil hat
  have hB09 : Below w.heap.size w w9 := (hB07.alloc hB07.size _).grown hg9 (by rw [World.size_alloc]; omega) (fun k hk => (ho8.lt k hk).1)
  have ho9 : OwnT w9 w.heap.size v9 (keptL l) := by
    unfold OwnT keptL
    rw [tcells_append, show (keptHead ++ l ++ keptTail).length = l.length + 5 + 3 by simp [keptHead, keptTail]]
    exact h9
  obtain ⟨A9, c9, hv9, -⟩ := ho9.form
  have HL := Lib.hid (show (keptL l).length = l.length + 8 by simp [keptL, keptHead, keptTail])
  rw [HL.out] at hv9
  subst hv9
  have HE := Lib.hid (And.intro ho9 hB09)
  clear ho9 hB09 h9 hg9 hnil hat
  go_wp2_with fail
  go_ret
  refine ⟨A9, c9, ?_, ?_, HE.out.2⟩
  · rw [HL.out]; rfl
  · rw [HL.out]; exact HE.out.1
/-- a run that takes blocks. -/
theorem ran_room (N K : Nat) (hN : N ≤ 1200) (hK : K ≤ 64) (inp : List UInt8) (fs : List Fr) (hfs : fs.map Fr.pg = loadT (img3 (insB (allC (rmC N K)))) 3) (hlen : lens fs) :
    (runM 200000000 ⟨c0, fs, inp⟩).2.c.halted = true ∧ (runM 200000000 ⟨c0, fs, inp⟩).2.c.fault = 0 ∧ ((runM 200000000 ⟨c0, fs, inp⟩).2.c.code = 0 ∨ ((runM 200000000 ⟨c0, fs, inp⟩).2.c.code = 110 ∧ 256 < N)) := by
  obtain ⟨r, m, pc, hT, hi, h17, h10⟩ := room_to (inp := inp) N K hN hK
  obtain ⟨q1, q2, q3, -⟩ := exit_run (room_asmd N K ⟨by omega, by omega⟩ ⟨by omega, by omega⟩) hT hi rfl h17 hfs hlen 200000000 (by decide)
  refine ⟨q1, q3, ?_⟩
  rcases h10 with h | ⟨h, hb⟩
  · exact .inl (q2.trans (by show ((r 10 % 256 : Nat) : Int) = 0; rw [h]; rfl))
  · exact .inr ⟨q2.trans (by show ((r 10 % 256 : Nat) : Int) = 110; rw [h]; rfl), hb⟩
theorem tcells_loop (n k : Int) : (tcells (loopL n k)).toArray = #[.int .i64 3, .string no, .int .i64 0, .int .i64 9, .int .i64 0, .int .i64 0, .int .i64 n, .int .i64 1, .string nmLoop, .int .i64 0, .int .i64 0, .int .i64 0, .int .i64 0, .int .i64 0, .int .i64 7, .string nmEnd, .int .i64 5, .int .i64 0, .int .i64 9, .int .i64 0, .int .i64 0, .int .i64 3, .string no, .int .i64 0, .int .i64 10, .int .i64 0, .int .i64 0, .int .i64 k, .int .i64 6, .string nmAlloc, .int .i64 0, .int .i64 1, .int .i64 0, .int .i64 0, .int .i64 0, .int .i64 2, .string no, .int .i64 22, .int .i64 9, .int .i64 9, .int .i64 0, .int .i64 (-1), .int .i64 5, .string nmLoop, .int .i64 0, .int .i64 0, .int .i64 0, .int .i64 0, .int .i64 0, .int .i64 1, .string nmEnd, .int .i64 0, .int .i64 0, .int .i64 0, .int .i64 0, .int .i64 0] := rfl
set_option maxRecDepth 20000 in
set_option maxHeartbeats 32000000 in
theorem RtRoom_any (w : World) (n k : Int) (htz : TzTab w) (hrv : RvRows w) : Calls Tryz.prog 6 #[.int .i64 n, .int .i64 k] w fun e w' => e = .returned (.bool true) ∧ Below w.heap.size w w' := by
  have HS := Lib.hid (fun (w1 : World) (h : Below w.heap.size w w1) => speaks10_any w1 (htz.below h) (hrv.below h))
  have HL := Lib.hid (And.intro htz hrv)
  clear htz hrv
  cases a1 : decide (n < 0)
  rotate_left
  · go_enter Tryz.func6, Tryz.ntmps6
    go_wp2_with fail
    refine Calls.mono (HS.out w (Below.refl _ _)) ?_
    rintro e w1 ⟨rfl, hB1⟩
    go_wp2
    go_ret
    exact ⟨rfl, hB1⟩
  cases a2 : decide ((1200 : Int) < n)
  rotate_left
  · go_enter Tryz.func6, Tryz.ntmps6
    go_wp2_with fail
    refine Calls.mono (HS.out w (Below.refl _ _)) ?_
    rintro e w1 ⟨rfl, hB1⟩
    go_wp2
    go_ret
    exact ⟨rfl, hB1⟩
  cases a3 : decide (k < 0)
  rotate_left
  · go_enter Tryz.func6, Tryz.ntmps6
    go_wp2_with fail
    refine Calls.mono (HS.out w (Below.refl _ _)) ?_
    rintro e w1 ⟨rfl, hB1⟩
    go_wp2
    go_ret
    exact ⟨rfl, hB1⟩
  cases a4 : decide ((64 : Int) < k)
  rotate_left
  · go_enter Tryz.func6, Tryz.ntmps6
    go_wp2_with fail
    refine Calls.mono (HS.out w (Below.refl _ _)) ?_
    rintro e w1 ⟨rfl, hB1⟩
    go_wp2
    go_ret
    exact ⟨rfl, hB1⟩
  obtain ⟨N, rfl, hN⟩ : ∃ N : Nat, n = N ∧ N ≤ 1200 := ⟨n.toNat, by have := of_decide_eq_false a1; omega, by have := of_decide_eq_false a2; omega⟩
  obtain ⟨K, rfl, hK⟩ : ∃ K : Nat, k = K ∧ K ≤ 64 := ⟨k.toNat, by have := of_decide_eq_false a3; omega, by have := of_decide_eq_false a4; omega⟩
  have hasm := room_asmd N K ⟨by omega, by omega⟩ ⟨by omega, by omega⟩
  have HA := Lib.hid (And.intro hasm (And.intro hN hK))
  clear hasm
  go_enter Tryz.func6, Tryz.ntmps6
  go_wp2_with fail
  refine Calls.mono (l10li_e 9 (N : Int) w) ?_
  rintro e w1 ⟨rfl, hB1⟩
  go_wp2_with fail
  refine Calls.mono (l10li_e 10 (K : Int) w1) ?_
  rintro e w2 ⟨rfl, hB2⟩
  have hB02 : Below w.heap.size w w2 := hB1.trans (hB2.mono hB1.size)
  go_wp2_with fail
  refine Calls.mono (l10call_e nmAlloc w2) ?_
  rintro e w3 ⟨rfl, hB3⟩
  have hB03 : Below w.heap.size w w3 := hB02.trans (hB3.mono hB02.size)
  go_wp2_with fail
  refine Calls.mono (l10ins_e 22 9 9 0 (-1) w3) ?_
  rintro e w4 ⟨rfl, hB4⟩
  have hB04 : Below w.heap.size w w4 := hB03.trans (hB4.mono hB03.size)
  obtain ⟨W5, hW5⟩ : ∃ W5 : World, W5 = w4.alloc (.cells (tcells (loopL (N : Int) (K : Int))).toArray 28) := ⟨_, rfl⟩
  have hB05 : Below w.heap.size w W5 := by rw [hW5]; exact hB04.alloc hB04.size _
  have hcs : Cs W5.heap.size W5 (some ⟨w4.heap.size, 0, none⟩) (tcells (loopL (N : Int) (K : Int))) := by rw [hW5]; exact it_lit (loopL (N : Int) (K : Int)) w4 28
  rw [tcells_loop] at hW5
  unfold nmLoop nmEnd at hW5
  have HK5 := Lib.hid (l10kept_any W5 (some ⟨w4.heap.size, 0, none⟩) 8 (loopL (N : Int) (K : Int)) hcs (by show (8 : Nat) ≤ 1000000; decide))
  have HW5 := Lib.hid hW5
  clear hW5 hcs hB1 hB2 hB3 hB4
  go_wp2_with fail
  rw [← HW5.out]
  refine Calls.mono HK5.out ?_
  rintro e w6 ⟨A6, c6, rfl, hO6, hB6⟩
  have hB06 : Below w.heap.size w w6 := hB05.trans (hB6.mono hB05.size)
  obtain ⟨A6', c6', e6, hI⟩ := hO6.form
  cases e6
  have hrun := l10run_any w6 A6 c6 (rmL N K) (rmC N K) none 0 [] 200000000 (fun c => c.halted = true ∧ c.fault = 0 ∧ (c.code = 0 ∨ (c.code = 110 ∧ 256 < N))) HA.out.1 hI (fun i hi => absurd hi (Nat.not_lt_zero i)) (by decide) (HL.out.1.below hB06) (HL.out.2.below hB06) (by decide) (fun fs hfs hl => ran_room N K HA.out.2.1 HA.out.2.2 [] fs hfs hl)
  have HRN := Lib.hid (And.intro hrun hB06)
  obtain ⟨q, hq⟩ : ∃ q, q = (keptL (loopL (N : Int) (K : Int))).length := ⟨_, rfl⟩
  have hrl : (rmL (N : Int) (K : Int)).length = q := hq.symm
  rw [hrl] at HRN
  rw [← hq]
  clear hrun hO6 hI hB6 hq hrl hB02 hB03 hB04 hB05 hB06
  go_wp2_with fail
  refine Calls.mono HRN.out.1 ?_
  rintro e w7 ⟨c, ov, rfl, hlen, ⟨q1, q2, q3⟩, hO, hol, hB7⟩
  have hB07 : Below w.heap.size w w7 := HRN.out.2.trans (hB7.mono HRN.out.2.size)
  obtain ⟨ds, hds⟩ : ∃ ds, ds = (c.cells ov).toArray := ⟨_, rfl⟩
  have hdz : ds.size = 39 := by rw [hds, List.size_toArray, ccells_len hlen]
  have hin : (Tryz.prog.info? 37).map (·.size) = some ds.size := by rw [hdz]; exact Tryz_sizeCpu2
  have hold : cpuZ.size = ds.size := by rw [hdz]; rfl
  have hone : ds.all (·.oneCell') = true := by rw [hds]; exact cells_oneA hO.one
  obtain ⟨z, hz⟩ : ∃ z, z = c.code := ⟨_, rfl⟩
  have HK := Lib.hid (And.intro hin (And.intro hold (And.intro hone (And.intro hds (And.intro hlen (And.intro q1 (And.intro q2 (And.intro hz hB07))))))))
  rw [← hds]
  rw [← hz] at q3
  have hs7 := hB07.size
  clear hdz hin hold hone hds hlen q1 q2 hO hol hB7 hB07 hz
  rcases q3 with rfl | ⟨rfl, hbig⟩
  · go_upto_region 7 with
      (refine wpList_store_row (o := ⟨none, Op.store 37 (.tmp 6) (.tmp 39), _, _, _, _⟩) rfl 37 (.tmp 6) (.tmp 39) rfl w7.heap.size ds rfl rfl 37 _ (heap_alloc_new w7 _) HK.out.1 HK.out.2.1 HK.out.2.2.1 ?_
       generalize hW8 : World.setRow _ _ _ = W8
       have hr8 : W8.heap[w7.heap.size]? = some (.cells ds 37 (0, 0)) := by rw [← hW8]; exact setRow_heap _ _ _ _ _ _ (heap_alloc_new w7 _)
       have hB8 : Below w7.heap.size w7 W8 := by rw [← hW8]; exact below_setRow ((Below.refl _ _).alloc (Nat.le_refl _) _) (Nat.le_refl _) _
       obtain ⟨x34, x35, x36, x37⟩ := ended_cells (by rw [← HK.out.2.2.2.1]; exact hr8) HK.out.2.2.2.2.1
       rw [HK.out.2.2.2.2.2.1] at x34
       rw [← HK.out.2.2.2.2.2.2.2.1] at x35
       rw [HK.out.2.2.2.2.2.2.1] at x36
       have hlt8 := lt_of_block hr8
       have hB08 : Below w.heap.size w W8 := HK.out.2.2.2.2.2.2.2.2.trans (hB8.mono HK.out.2.2.2.2.2.2.2.2.size)
       clear hW8 hr8 hB8)
    go_wp2_with (go_at_call 9; refine Calls.mono (HS.out _ hB08) ?_
                 rintro e w10 ⟨rfl, hB10⟩
                 have hBw10 := hB08.trans (hB10.mono hB08.size)
                 clear hB10)
    go_ret
    exact ⟨rfl, hBw10⟩
  · have hbn : decide ((256 : Int) < (N : Int)) = true := decide_eq_true (by omega)
    go_upto_region 7 with
      (refine wpList_store_row (o := ⟨none, Op.store 37 (.tmp 6) (.tmp 39), _, _, _, _⟩) rfl 37 (.tmp 6) (.tmp 39) rfl w7.heap.size ds rfl rfl 37 _ (heap_alloc_new w7 _) HK.out.1 HK.out.2.1 HK.out.2.2.1 ?_
       generalize hW8 : World.setRow _ _ _ = W8
       have hr8 : W8.heap[w7.heap.size]? = some (.cells ds 37 (0, 0)) := by rw [← hW8]; exact setRow_heap _ _ _ _ _ _ (heap_alloc_new w7 _)
       have hB8 : Below w7.heap.size w7 W8 := by rw [← hW8]; exact below_setRow ((Below.refl _ _).alloc (Nat.le_refl _) _) (Nat.le_refl _) _
       obtain ⟨x34, x35, x36, x37⟩ := ended_cells (by rw [← HK.out.2.2.2.1]; exact hr8) HK.out.2.2.2.2.1
       rw [HK.out.2.2.2.2.2.1] at x34
       rw [← HK.out.2.2.2.2.2.2.2.1] at x35
       rw [HK.out.2.2.2.2.2.2.1] at x36
       have hlt8 := lt_of_block hr8
       have hB08 : Below w.heap.size w W8 := HK.out.2.2.2.2.2.2.2.2.trans (hB8.mono HK.out.2.2.2.2.2.2.2.2.size)
       clear hW8 hr8 hB8)
    go_wp2_with (go_at_call 9; refine Calls.mono (HS.out _ hB08) ?_
                 rintro e w10 ⟨rfl, hB10⟩
                 have hBw10 := hB08.trans (hB10.mono hB08.size)
                 clear hB10)
    go_ret
    exact ⟨rfl, hBw10⟩
end Go.Proofs
