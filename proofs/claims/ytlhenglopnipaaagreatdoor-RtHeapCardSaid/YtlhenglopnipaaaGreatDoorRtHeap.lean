/- patinalaw10.RtHeap: the walk. -/
import Derived.Test.YtlhenglopnipaaaGreatDoorRtHw
namespace Go.Proofs
open Go Go.RowKit Go.Pat
theorem Tryz_info_int : (Tryz.prog.info? 3).map (fun i => (i.zero, i.size, i.bytes)) = some (some (.int .i64 0), 1, 8) := by kernel_rfl
theorem Tryz_info_bool : (Tryz.prog.info? 4).map (fun i => (i.zero, i.size, i.bytes)) = some (some (.bool false), 1, 1) := by kernel_rfl
theorem Tryz_und_words : Tryz.prog.underlying 43 = some (.slice 3) := by kernel_rfl
theorem Tryz_und_flags : Tryz.prog.underlying 44 = some (.slice 4) := by kernel_rfl
theorem mk_words (n : Nat) (hn : n ≤ 1000) : ∀ w : World, (Instr.makeSlice 43 (.int .i64 (n : Int)) (.int .i64 (n : Int))).run Tryz.prog w = .ok (.slice (some ⟨w.heap.size, 0, none⟩) n n) (w.alloc (.cells (wA n (fun _ => 0)) 3)) := fun w => by
  obtain ⟨i, hi, hz0, hz1, hz2⟩ := info_parts Tryz_info_int
  have := run_make (P := Tryz.prog) w 43 3 i (.int .i64 0) Tryz_und_words hi hz0 .i64 .i64 n n (by omega) (by omega) (by rw [hz2]; omega) (by omega)
  rw [Int.toNat_natCast, hz1, wA_zero] at this
  exact this
theorem mk_flags (n : Nat) (hn : n ≤ 1000) : ∀ w : World, (Instr.makeSlice 44 (.int .i64 (n : Int)) (.int .i64 (n : Int))).run Tryz.prog w = .ok (.slice (some ⟨w.heap.size, 0, none⟩) n n) (w.alloc (.cells (fA n (fun _ => false)) 4)) := fun w => by
  obtain ⟨i, hi, hz0, hz1, hz2⟩ := info_parts Tryz_info_bool
  have := run_make (P := Tryz.prog) w 44 4 i (.bool false) Tryz_und_flags hi hz0 .i64 .i64 n n (by omega) (by omega) (by rw [hz2]; omega) (by omega)
  rw [Int.toNat_natCast, hz1, fA_zero] at this
  exact this
theorem HpW.start (w : World) (n : Nat) : HpW w (w.heap.size + 2) w.heap.size (w.heap.size + 1) n ((w.alloc (.cells (wA n (fun _ => 0)) 3)).alloc (.cells (fA n (fun _ => false)) 4)) (.slice none 0 0) [] (fun _ => 0) (fun _ => false) := by
  refine ⟨.nil _ _, ((Below.refl _ _).alloc (Nat.le_refl _) _).alloc (by rw [World.size_alloc]; omega) _, by rw [World.size_alloc, World.size_alloc]; omega, Nat.le_refl _, by omega, by omega, ?_, ?_⟩
  · rw [heap_alloc_old _ _ (by rw [World.size_alloc]; omega)]
    exact heap_alloc_new w _
  · have := heap_alloc_new (w.alloc (.cells (wA n (fun _ => 0)) 3)) (.cells (fA n (fun _ => false)) 4)
    rw [World.size_alloc] at this
    exact this
theorem HpW.lit {w wr w2 : World} {B bw bf n : Nat} {v : Value} {it : List It} {W : Nat → Nat} {F : Nat → Bool} (h : HpW w B bw bf n wr v it W F) (hB : Below wr.heap.size wr w2) (new : List It) (cs : Array Value) (hc : cs = (tcells new).toArray) :
    HpW w B bw bf n (w2.alloc (.cells cs 28)) v it W F ∧ Cs (w2.alloc (.cells cs 28)).heap.size (w2.alloc (.cells cs 28)) (some ⟨w2.heap.size, 0, none⟩) (tcells new) := by
  subst hc
  exact ⟨h.below (hB.alloc hB.size _), it_lit new w2 28⟩
theorem heap_step (l : List Bk) (j K : Nat) (F : Nat → Bool) (hK : K = WL l j) (hF : F = frF (kbL l) j) (q : List It) :
    q ++ heapL (WL l) (kbL l) (j + 1) = (((q ++ heapL (WL l) (kbL l) j) ++ freeOL (WL l) (kbL l j F)) ++ hpAllocL j K) ++ fillsL j K := by
  subst hK hF
  rw [heapL]
  simp only [List.append_assoc]
theorem word_step (l : List Bk) (j K : Nat) (hK : K = WL l j) : (fun y => if y = j then K else if y < j then WL l y else 0) = fun y => if y < j + 1 then WL l y else 0 := by
  funext y
  by_cases e : y = j
  · rw [if_pos e, if_pos (by omega), hK, e]
  · by_cases e2 : y < j
    · rw [if_neg e, if_pos e2, if_pos (by omega)]
    · rw [if_neg e, if_neg e2, if_neg (by omega)]
set_option maxRecDepth 20000 in
set_option maxHeartbeats 32000000 in
theorem RtHeap_any (w : World) (LA : Option Addr) (lc : Nat) (l : List Bk) (hl : Cs w.heap.size w LA (bkcells l)) (hll : l.length ≤ 9223372036854775807) (htz : TzTab w) (hrv : RvRows w) :
    Calls Tryz.prog 5 #[.slice LA l.length lc] w fun e w' => e = .returned (.bool true) ∧ Below w.heap.size w w' := by
  have HS := Lib.hid (fun (w1 : World) (h : Below w.heap.size w w1) => speaks10_any w1 (htz.below h) (hrv.below h))
  have HL := Lib.hid (And.intro hl (And.intro htz hrv))
  clear hl htz hrv
  cases c40 : decide ((40 : Int) < (l.length : Int))
  rotate_left
  · go_enter Tryz.func5, Tryz.ntmps5
    go_wp2_with fail
    refine Calls.mono (HS.out w (Below.refl _ _)) ?_
    rintro e w1 ⟨rfl, hB1⟩
    go_wp2
    go_ret
    exact ⟨rfl, hB1⟩
  have h40 : l.length ≤ 40 := by have := of_decide_eq_false c40; omega
  have hm1 := mk_words l.length (by omega)
  have hm2 := mk_flags l.length (by omega)
  have H0 := Lib.hid (HpW.start w l.length)
  have H40 := Lib.hid h40
  clear h40
  go_enter Tryz.func5, Tryz.ntmps5
  go_wp2_with fail
  generalize hW0 : (w.alloc (.cells (wA l.length (fun _ => 0)) 3)).alloc (.cells (fA l.length (fun _ => false)) 4) = W0
  have h0 := H0.out
  rw [hW0] at h0
  have HB0 := Lib.hid h0
  clear hm1 hm2 hW0 H0 h0
  refine Calls.mono (l10ins_e 22 2 2 0 (-512) W0) ?_
  rintro e w2 ⟨rfl, hB2⟩
  obtain ⟨h3, hr3⟩ := HB0.out.lit hB2 [insIt ⟨22, 2, 2, 0, -512⟩] #[.int .i64 2, .string no, .int .i64 22, .int .i64 2, .int .i64 2, .int .i64 0, .int .i64 (-512)] rfl
  generalize hW3 : w2.alloc (.cells #[.int .i64 2, .string no, .int .i64 22, .int .i64 2, .int .i64 2, .int .i64 0, .int .i64 (-512)] 28) = W3 at h3 hr3
  have ho3 := h3.own
  unfold OwnT at ho3
  have HH := Lib.hid (And.intro h3 hW3)
  have hs3 := h3.siz
  clear h3 hW3 HB0 hB2
  go_wp2_with (at_builtin; rw [HH.out.2]; refine wpList_app _ rfl _ _ 24 rfl Tryz_elTs (w.heap.size + 2) _ 0 (tcells []) (by exact rfl) ho3 _ (some ⟨w2.heap.size, 0, none⟩) 1 1 (tcells [insIt ⟨22, 2, 2, 0, -512⟩]) (by exact rfl) rfl hr3 (tcells_one _) (by simp only [maxLen]; omega) (by omega) hs3 ?_
               intro v4 w4 h4 hg4 hn4 ha4
               have h5 := HH.out.1.app (it2 := [insIt ⟨22, 2, 2, 0, -512⟩]) rfl h4 hg4
               clear h4 hg4 hn4 ha4 ho3 hr3 HH hs3)
  obtain ⟨B, hB⟩ : ∃ B, B = w.heap.size + 2 := ⟨_, rfl⟩
  obtain ⟨bw, hbw⟩ : ∃ b, b = w.heap.size := ⟨_, rfl⟩
  obtain ⟨bf, hbf⟩ : ∃ b, b = w.heap.size + 1 := ⟨_, rfl⟩
  rw [← hB, ← hbf] at h5
  have h6 : HpW w B bw bf l.length w4 v4 [insIt ⟨22, 2, 2, 0, -512⟩] (fun _ => 0) (fun _ => false) := by rw [hbw]; exact h5
  rw [← hbf]
  rw [← hbw]
  clear h5 hB hbw hbf
  go_loopw [3, 6] (fun v i wr => ∃ j : Nat, j ≤ l.length ∧ i = .int .i64 j ∧ HpW w B bw bf l.length wr v ([insIt ⟨22, 2, 2, 0, -512⟩] ++ heapL (WL l) (kbL l) j) (fun y => if y < j then WL l y else 0) (frF (kbL l) j)) (fun _ i _ => l.length - (intOf i).toNat)
  case atStart => exact ⟨0, by omega, rfl, h6⟩
  case round =>
    obtain ⟨j, hj, rfl, hP⟩ := hrel
    by_cases hlt : j < l.length
    · have td : decide ((j : Int) < (l.length : Int)) = true := decide_eq_true (by omega)
      have hju : (j : Int) < (l.length : Int) := by omega
      obtain ⟨b, o, rfl, hb, y0, y1, y2⟩ := bk_at (HL.out.1.below hP.low) j hlt
      have hbl : b < wr.heap.size := Nat.lt_of_lt_of_le hb hP.low.size
      obtain ⟨⟨xw, xf, xb⟩, hx⟩ : ∃ x, x = l[j] := ⟨_, rfl⟩
      rw [← hx] at y0 y1 y2
      have z0 : wr.cell? ⟨b, o + j * 3, none⟩ = some (.int .i64 xw) := y0
      have z1 : wr.cell? ⟨b, o + j * 3 + 1, none⟩ = some (.bool xf) := y1
      have z2 : wr.cell? ⟨b, o + j * 3 + 2, none⟩ = some (.int .i64 xb) := y2
      have HX := Lib.hid hx
      clear hx y0 y1 y2
      cases a1 : decide (xw < 0)
      rotate_left
      · go_wp2_with fail
        refine Calls.mono (HS.out _ hP.low) ?_
        rintro e w1 ⟨rfl, hB1⟩
        have HE := Lib.hid (hP.low.trans (hB1.mono hP.low.size))
        clear hB1
        go_wp2
        go_ret
        exact ⟨rfl, HE.out⟩
      cases a2 : decide ((64 : Int) < xw)
      rotate_left
      · go_wp2_with fail
        refine Calls.mono (HS.out _ hP.low) ?_
        rintro e w1 ⟨rfl, hB1⟩
        have HE := Lib.hid (hP.low.trans (hB1.mono hP.low.size))
        clear hB1
        go_wp2
        go_ret
        exact ⟨rfl, HE.out⟩
      have hxw : 0 ≤ xw ∧ xw ≤ 64 := ⟨by have := of_decide_eq_false a1; omega, by have := of_decide_eq_false a2; omega⟩
      have hK : (WL l j : Int) = xw := by rw [WL_at l j hlt (by rw [← HX.out]; exact hxw), ← HX.out]
      obtain ⟨K, hKe⟩ : ∃ K, K = WL l j := ⟨_, rfl⟩
      rw [← hKe] at hK
      subst hK
      have hK64 : K ≤ 64 := by omega
      have hPP := Lib.hid (And.intro hP hKe)
      have hcw := hP.word j hlt
      have hfw := (hP.soft j).1
      have hw1 := hP.setw j K
      obtain ⟨F, hF⟩ : ∃ F, F = frF (kbL l) j := ⟨_, rfl⟩
      rw [← hF] at hw1
      have HF := Lib.hid (And.intro hF hw1)
      clear hP hw1 hKe hF
      go_upto_region 13 with fail
      obtain ⟨W1, hW1⟩ : ∃ W1, W1 = wr.setCell ⟨bw, j, none⟩ (.int .i64 (K : Int)) := ⟨_, rfl⟩
      have hw1 := HF.out.2
      rw [← hW1] at hw1 ⊢
      obtain ⟨y0, y1, y2⟩ : W1.cell? ⟨b, o + j * 3, none⟩ = some (.int .i64 (K : Int)) ∧ W1.cell? ⟨b, o + j * 3 + 1, none⟩ = some (.bool xf) ∧ W1.cell? ⟨b, o + j * 3 + 2, none⟩ = some (.int .i64 xb) := by
        obtain ⟨b2, o2, e2, -, q0, q1, q2⟩ := bk_at (HL.out.1.below hw1.low) j hlt
        cases e2
        rw [← HX.out] at q0 q1 q2
        exact ⟨q0, q1, q2⟩
      have hbl1 : b < W1.heap.size := Nat.lt_of_lt_of_le hb hw1.low.size
      have HW1 := Lib.hid hw1
      clear z0 z1 z2 hcw hfw hW1 hw1 hbl
      have hk82 : kbL l j F = kbX ⟨(K : Int), xf, xb⟩ j F := by rw [kbL_at l j hlt, ← HX.out]
      obtain ⟨cb, hcb⟩ : ∃ cb, cb = (kbL l j F).isSome := ⟨_, rfl⟩
      have HC := Lib.hid (And.intro hk82 hcb)
      clear hk82 hcb
      go_upto_region 14 with fail
      go_cut [82] from 28 to 133 (fun c wx => c = .bool cb ∧ wx = W1)
      case first =>
        cases xf with
        | false =>
          go_wp2_with fail
          go_meet
          exact ⟨by rw [HC.out.2, HC.out.1]; simp [kbX], rfl⟩
        | true =>
          cases a3 : decide (xb < 0) with
          | true =>
            have a4 : decide ((0 : Int) ≤ xb) = false := decide_eq_false (by have := of_decide_eq_true a3; omega)
            go_wp2_with fail
            go_meet
            exact ⟨by rw [HC.out.2, HC.out.1]; have := of_decide_eq_true a3; simp [kbX]; omega, rfl⟩
          | false =>
            have h0 : 0 ≤ xb := by have := of_decide_eq_false a3; omega
            have a4 : decide ((0 : Int) ≤ xb) = true := decide_eq_true h0
            cases a5 : decide (xb < (j : Int)) with
            | false =>
              go_wp2_with fail
              go_meet
              exact ⟨by rw [HC.out.2, HC.out.1]; have := of_decide_eq_false a5; simp [kbX]; omega, rfl⟩
            | true =>
              have h5 : xb < (j : Int) := of_decide_eq_true a5
              obtain ⟨q, rfl⟩ : ∃ q : Nat, xb = q := ⟨xb.toNat, by omega⟩
              have hqn : q < l.length := by omega
              have hqu : (q : Int) < (l.length : Int) := by omega
              have hfl := HW1.out.flag q hqn
              cases hFq : F q with
              | true =>
                rw [hFq] at hfl
                go_wp2_with fail
                go_meet
                exact ⟨by rw [HC.out.2, HC.out.1]; simp [kbX, hFq], rfl⟩
              | false =>
                rw [hFq] at hfl
                go_wp2_with fail
                go_meet
                exact ⟨by rw [HC.out.2, HC.out.1]; simp [kbX, hFq]; omega, rfl⟩
      case rest =>
        obtain ⟨rfl, hwc⟩ := hcut
        rw [hwc]
        clear hwc
        go_upto_if 82 with fail
        go_cut [3] from 28 to 133 (fun v wx => HpW w B bw bf l.length wx v (([insIt ⟨22, 2, 2, 0, -512⟩] ++ heapL (WL l) (kbL l) j) ++ freeOL (WL l) (kbL l j F)) (fun y => if y = j then K else if y < j then WL l y else 0) (frU F (kbL l j F)))
        case first =>
          cases hkb : kbL l j F with
          | none =>
            have hcf : cb = false := by rw [HC.out.2, hkb]; rfl
            rw [hcf]
            go_wp2_with fail
            go_meet
            rw [hkb, show freeOL (WL l) none = [] from rfl, List.append_nil]
            exact HW1.out
          | some q =>
            have hcf : cb = true := by rw [HC.out.2, hkb]; rfl
            rw [hcf]
            obtain ⟨hq1, hq2⟩ := kbL_ok l j F q hkb
            have hxq : xb = (q : Int) := by
              have hc1 := HC.out.1
              rw [hkb] at hc1
              unfold kbX at hc1
              split at hc1
              · rename_i hc
                have h1 : xb.toNat = q := (Option.some.inj hc1).symm
                have h2 : 0 ≤ xb := hc.1.2
                omega
              · cases hc1
            subst hxq
            have hqn : q < l.length := by omega
            have hqu : (q : Int) < (l.length : Int) := by omega
            have hq40 : q < 40 := by have := H40.out; omega
            have hfl := HW1.out.flag q hqn
            rw [hq2] at hfl
            have hsf := (HW1.out.soft q).2
            have H2 := Lib.hid (And.intro (HW1.out.setf q) (And.intro hkb hq1))
            clear hkb hq2 hcf
            go_upto_region 16 with fail
            obtain ⟨W2, hW2⟩ : ∃ W2, W2 = W1.setCell ⟨bf, q, none⟩ (.bool true) := ⟨_, rfl⟩
            have hw2 := H2.out.1
            rw [← hW2] at hw2 ⊢
            have cw0 := hw2.word q hqn
            simp only [if_neg (show ¬ q = j by omega), if_pos hq1] at cw0
            obtain ⟨Kq, hKq⟩ : ∃ Kq, Kq = WL l q := ⟨_, rfl⟩
            rw [← hKq] at cw0
            have hKq64 : Kq ≤ 64 := by rw [hKq]; exact WL_le l q
            obtain ⟨A1, c1, rfl, -⟩ := hw2.own.form
            obtain ⟨it, hit⟩ : ∃ it, it = [insIt ⟨22, 2, 2, 0, -512⟩] ++ heapL (WL l) (kbL l) j := ⟨_, rfl⟩
            rw [← hit] at hw2 ⊢
            obtain ⟨k, hk⟩ : ∃ k, k = it.length := ⟨_, rfl⟩
            have hkz : k ≤ 20000 := by
              have h1 := heapL_len (kb := kbL l) (WL_le l) j
              have h40 := H40.out
              rw [hk, hit, List.length_append, List.length_singleton]
              omega
            rw [← hk]
            have cw : W2.drew.cell? ⟨bw, q, none⟩ = some (.int .i64 (Kq : Int)) := cw0
            have hbwl : bw < W2.heap.size := hw2.lt.1
            have HI := Lib.hid (And.intro hw2 (And.intro hit (And.intro hKq hk)))
            have hw8 : IntKind.i64.wrap (8 * (q : Int)) = 8 * (q : Int) := by rw [IntKind.wrap_i64]; omega
            have HW8 := Lib.hid hw8
            clear hfl hsf hW2 hw2 cw0 hit hKq hk y0 y1 y2 hbl1 hw8
            go_region_law (first
              | (go_simp
                 go_at_call 14
                 with_reducible refine Calls.mono (l10ins_e 14 10 2 0 (IntKind.i64.wrap (8 * (q : Int))) W2.drew) ?_
                 rintro e wa ⟨rfl, hBa⟩
                 have ca : wa.cell? ⟨bw, q, none⟩ = some (.int .i64 (Kq : Int)) := (hBa.cell (p := ⟨bw, q, none⟩) hbwl).trans cw)
              | (go_simp
                 go_at_call 10
                 with_reducible refine Calls.mono (l10li_e 11 _ wa) ?_
                 rintro e wb ⟨rfl, hBb⟩)
              | (go_simp
                 go_at_call 11
                 refine Calls.mono (l10call_e nmFree wb) ?_
                 rintro e wc ⟨rfl, hBc⟩
                 have hB2a : Below W2.heap.size W2 wa := (Below.refl _ _).drew.trans hBa
                 have hB2c : Below W2.heap.size W2 wc := (hB2a.trans (hBb.mono hB2a.size)).trans (hBc.mono (Nat.le_trans hB2a.size hBb.size))
                 obtain ⟨h3, hr3⟩ := HI.out.1.lit hB2c (freeL q Kq) #[.int .i64 2, .string no, .int .i64 14, .int .i64 10, .int .i64 2, .int .i64 0, .int .i64 (IntKind.i64.wrap (8 * (q : Int))), .int .i64 3, .string no, .int .i64 0, .int .i64 11, .int .i64 0, .int .i64 0, .int .i64 (Kq : Int), .int .i64 6, .string nmFree, .int .i64 0, .int .i64 1, .int .i64 0, .int .i64 0, .int .i64 0] (by rw [HW8.out]; rfl)
                 have ho3 := h3.own
                 unfold OwnT at ho3
                 rw [← HI.out.2.2.2] at ho3)
              | (refine step_app rfl (.tmp 86) (.tmp 96) 24 rfl Tryz_elTs B _ k (tcells it) rfl ho3 _ (some ⟨wc.heap.size, 0, none⟩) 3 3 (tcells (freeL q Kq)) rfl rfl hr3 (tcells_one _) (by simp only [maxLen]; omega) (by omega) h3.siz ?_
                 intro v4 w4 h4 hg4 hn4 ha4
                 have HR := Lib.hid (show HpW w B bw bf l.length w4 v4 (it ++ freeL q Kq) (fun y => if y = j then K else if y < j then WL l y else 0) (fun y => if y = q then true else F y) from by
                   rw [← tcells_append] at h4
                   exact h3.app (by rw [HI.out.2.2.2, List.length_append]; rfl) h4 (by rw [← HI.out.2.2.2]; exact hg4))
                 clear h4 hg4 hn4 ha4 h3 ho3 hr3))
            all_goals
              go_wp2_with fail
              go_meet
              rw [H2.out.2.1, show freeOL (WL l) (some q) = freeL q (WL l q) from rfl, ← HI.out.2.2.1, ← HI.out.2.1]
              exact HR.out
        case rest =>
          obtain ⟨A1, c1, rfl, -⟩ := hcut.own.form
          obtain ⟨it, hit⟩ : ∃ it, it = ([insIt ⟨22, 2, 2, 0, -512⟩] ++ heapL (WL l) (kbL l) j) ++ freeOL (WL l) (kbL l j F) := ⟨_, rfl⟩
          obtain ⟨F2, hF2⟩ : ∃ F2, F2 = frU F (kbL l j F) := ⟨_, rfl⟩
          rw [← hF2] at hcut
          rw [← hit] at hcut ⊢
          obtain ⟨k, hk⟩ : ∃ k, k = it.length := ⟨_, rfl⟩
          have hj40 : j < 40 := by have := H40.out; omega
          have hkz : k ≤ 20000 := by
            have h1 := heapL_len (kb := kbL l) (WL_le l) j
            have h2 : (freeOL (WL l) (kbL l j F)).length ≤ 3 := by
              cases kbL l j F with
              | none => exact Nat.zero_le _
              | some k => exact Nat.le_refl _
            rw [hk, hit, List.length_append, List.length_append, List.length_singleton]
            omega
          rw [← hk]
          have cw := hcut.word j hlt
          simp only [if_pos] at cw
          have hbwl : bw < wc.heap.size := hcut.lt.1
          have HI := Lib.hid (And.intro hcut (And.intro hit (And.intro hF2 hk)))
          clear hcut hit hF2 hk y0 y1 y2 hbl1
          go_wp2_with fail
          refine Calls.mono (l10li_e 10 (K : Int) wc) ?_
          rintro e wa ⟨rfl, hBa⟩
          go_wp2_with fail
          refine Calls.mono (l10call_e nmAlloc wa) ?_
          rintro e wb ⟨rfl, hBb⟩
          go_wp2_with fail
          refine Calls.mono (l10ins_e 21 0 2 10 (8 * (j : Int)) wb) ?_
          rintro e wd ⟨rfl, hBd⟩
          have hBab : Below wc.heap.size wc wb := hBa.trans (hBb.mono hBa.size)
          obtain ⟨h3, hr3⟩ := HI.out.1.lit (hBab.trans (hBd.mono hBab.size)) (hpAllocL j K) #[.int .i64 3, .string no, .int .i64 0, .int .i64 10, .int .i64 0, .int .i64 0, .int .i64 (K : Int), .int .i64 6, .string nmAlloc, .int .i64 0, .int .i64 1, .int .i64 0, .int .i64 0, .int .i64 0, .int .i64 2, .string no, .int .i64 21, .int .i64 0, .int .i64 2, .int .i64 10, .int .i64 (8 * (j : Int))] rfl
          generalize hW3 : wd.alloc (.cells #[.int .i64 3, .string no, .int .i64 0, .int .i64 10, .int .i64 0, .int .i64 0, .int .i64 (K : Int), .int .i64 6, .string nmAlloc, .int .i64 0, .int .i64 1, .int .i64 0, .int .i64 0, .int .i64 0, .int .i64 2, .string no, .int .i64 21, .int .i64 0, .int .i64 2, .int .i64 10, .int .i64 (8 * (j : Int))] 28) = W3 at h3 hr3
          have ho3 := h3.own
          unfold OwnT at ho3
          rw [← HI.out.2.2.2] at ho3
          have hs3 := h3.siz
          have HH := Lib.hid (And.intro h3 hW3)
          clear h3 hW3 hBa hBb hBd hBab
          go_wp2_with (at_builtin; rw [HH.out.2]; refine wpList_app _ rfl _ _ 24 rfl Tryz_elTs B _ k (tcells it) (by exact rfl) ho3 _ (some ⟨wd.heap.size, 0, none⟩) 3 3 (tcells (hpAllocL j K)) (by exact rfl) rfl hr3 (tcells_one _) (by simp only [maxLen]; omega) (by omega) hs3 ?_
                       intro v4 w4 h4 hg4 hn4 ha4
                       have h5 : HpW w B bw bf l.length w4 v4 (it ++ hpAllocL j K) (fun y => if y = j then K else if y < j then WL l y else 0) F2 := by
                         rw [← tcells_append] at h4
                         exact HH.out.1.app (by rw [HI.out.2.2.2, List.length_append]; rfl) h4 (by rw [← HI.out.2.2.2]; exact hg4)
                       clear h4 hg4 hn4 ha4 ho3 hr3 HH hs3)
          clear cw hbwl
          go_loopw [3, 8] (fun v jv wr2 => ∃ c : Nat, c ≤ K ∧ jv = .int .i64 c ∧ HpW w B bw bf l.length wr2 v ((it ++ hpAllocL j K) ++ fillsL j c) (fun y => if y = j then K else if y < j then WL l y else 0) F2) (fun _ jv _ => K - (intOf jv).toNat)
          case atStart => exact ⟨0, by omega, rfl, by rw [fillsL, List.append_nil]; exact h5⟩
          case round =>
            obtain ⟨c, hc, rfl, hP⟩ := hrel
            have cw := hP.word j hlt
            simp only [if_pos] at cw
            have hbwl := hP.lt.1
            by_cases hcK : c < K
            · have td2 : decide ((c : Int) < (K : Int)) = true := decide_eq_true (by omega)
              have hc64 : c < 64 := by omega
              obtain ⟨A2, c2, rfl, -⟩ := hP.own.form
              obtain ⟨it2, hit2⟩ : ∃ it2, it2 = (it ++ hpAllocL j K) ++ fillsL j c := ⟨_, rfl⟩
              rw [← hit2] at hP ⊢
              obtain ⟨k2, hk2⟩ : ∃ k2, k2 = it2.length := ⟨_, rfl⟩
              have hk2z : k2 ≤ 30000 := by
                have h1 := HI.out.2.2.2
                rw [hk2, hit2, List.length_append, List.length_append, fillsL_len, ← h1]
                show k + 3 + _ ≤ _
                omega
              rw [← hk2]
              have HI2 := Lib.hid (And.intro hP (And.intro hit2 hk2))
              clear hP hit2 hk2
              go_wp2_with fail
              refine Calls.mono (l10ins_e 14 9 10 0 (8 * (c : Int)) wr) ?_
              rintro e wa ⟨rfl, hBa⟩
              go_wp2_with fail
              refine Calls.mono (l10ins_e 43 18 18 9 0 wa) ?_
              rintro e wb ⟨rfl, hBb⟩
              have hBab : Below wr.heap.size wr wb := hBa.trans (hBb.mono hBa.size)
              clear hBa hBb
              go_wp2_with fail
              refine Calls.mono (l10li_e 9 (1000 * (j : Int) + (c : Int) + 1) wb) ?_
              rintro e wc2 ⟨rfl, hBc⟩
              have hBac : Below wr.heap.size wr wc2 := hBab.trans (hBc.mono hBab.size)
              clear hBab hBc
              go_wp2_with fail
              refine Calls.mono (l10ins_e 21 0 10 9 (8 * (c : Int)) wc2) ?_
              rintro e wd2 ⟨rfl, hBd⟩
              obtain ⟨h3, hr3⟩ := HI2.out.1.lit (hBac.trans (hBd.mono hBac.size)) (fillL j c) #[.int .i64 2, .string no, .int .i64 14, .int .i64 9, .int .i64 10, .int .i64 0, .int .i64 (8 * (c : Int)), .int .i64 2, .string no, .int .i64 43, .int .i64 18, .int .i64 18, .int .i64 9, .int .i64 0, .int .i64 3, .string no, .int .i64 0, .int .i64 9, .int .i64 0, .int .i64 0, .int .i64 (1000 * (j : Int) + (c : Int) + 1), .int .i64 2, .string no, .int .i64 21, .int .i64 0, .int .i64 10, .int .i64 9, .int .i64 (8 * (c : Int))] rfl
              generalize hW3 : wd2.alloc (.cells #[.int .i64 2, .string no, .int .i64 14, .int .i64 9, .int .i64 10, .int .i64 0, .int .i64 (8 * (c : Int)), .int .i64 2, .string no, .int .i64 43, .int .i64 18, .int .i64 18, .int .i64 9, .int .i64 0, .int .i64 3, .string no, .int .i64 0, .int .i64 9, .int .i64 0, .int .i64 0, .int .i64 (1000 * (j : Int) + (c : Int) + 1), .int .i64 2, .string no, .int .i64 21, .int .i64 0, .int .i64 10, .int .i64 9, .int .i64 (8 * (c : Int))] 28) = W3 at h3 hr3
              have ho3 := h3.own
              unfold OwnT at ho3
              rw [← HI2.out.2.2] at ho3
              have hs3 := h3.siz
              have HH := Lib.hid (And.intro h3 hW3)
              clear h3 hW3 hBac hBd
              go_wp2_with (at_builtin; rw [HH.out.2]; refine wpList_app _ rfl _ _ 24 rfl Tryz_elTs B _ k2 (tcells it2) (by exact rfl) ho3 _ (some ⟨wd2.heap.size, 0, none⟩) 4 4 (tcells (fillL j c)) (by exact rfl) rfl hr3 (tcells_one _) (by simp only [maxLen]; omega) (by omega) hs3 ?_
                           intro v5 w5 h4 hg4 hn4 ha4
                           have h6 : HpW w B bw bf l.length w5 v5 (it2 ++ fillL j c) (fun y => if y = j then K else if y < j then WL l y else 0) F2 := by
                             rw [← tcells_append] at h4
                             exact HH.out.1.app (by rw [HI2.out.2.2, List.length_append]; rfl) h4 (by rw [← HI2.out.2.2]; exact hg4)
                           have H6 := Lib.hid h6
                           clear h6 h4 hg4 hn4 ha4 ho3 hr3 HH hs3)
              go_roundw
              case rel =>
                refine ⟨c + 1, by omega, by go_num, ?_⟩
                rw [fillsL, ← List.append_assoc, ← HI2.out.2.1]
                exact H6.out
              case measure => simp [intOf]; omega
            · have td2 : decide ((c : Int) < (K : Int)) = false := decide_eq_false (by omega)
              obtain rfl : c = K := by omega
              have H6 := Lib.hid hP
              clear hP
              go_wp2_with fail
              go_roundw
              case rel =>
                refine ⟨j + 1, by omega, by go_num, ?_⟩
                rw [heap_step l j c F hPP.out.2 HF.out.1, ← HI.out.2.1, ← word_step l j c hPP.out.2, show frF (kbL l) (j + 1) = F2 from by rw [HI.out.2.2.1, HF.out.1]; rfl]
                exact H6.out
              case measure => simp [intOf]; omega
    · have td : decide ((j : Int) < (l.length : Int)) = false := decide_eq_false (by omega)
      obtain rfl : j = l.length := by omega
      obtain ⟨F3, hF3⟩ : ∃ F3, F3 = frF (kbL l) l.length := ⟨_, rfl⟩
      obtain ⟨wf, hwf⟩ : ∃ wf : Nat → Nat, wf = fun y => if y < l.length then WL l y else 0 := ⟨_, rfl⟩
      rw [← hF3, ← hwf] at hP
      obtain ⟨A1, c1, rfl, -⟩ := hP.own.form
      obtain ⟨it, hit⟩ : ∃ it, it = [insIt ⟨22, 2, 2, 0, -512⟩] ++ heapL (WL l) (kbL l) l.length := ⟨_, rfl⟩
      rw [← hit] at hP ⊢
      obtain ⟨k, hk⟩ : ∃ k, k = it.length := ⟨_, rfl⟩
      have hkz : k ≤ 20000 := by
        have h1 := heapL_len (kb := kbL l) (WL_le l) l.length
        have h40 := H40.out
        rw [hk, hit, List.length_append, List.length_singleton]
        omega
      rw [← hk]
      have HI := Lib.hid (And.intro hP (And.intro hit (And.intro hk (And.intro hF3 hwf))))
      clear hP hit hk hF3 hwf
      go_wp2_with fail
      refine Calls.mono (l10ins_e 22 10 18 0 0 wr) ?_
      rintro e wa ⟨rfl, hBa⟩
      go_wp2_with fail
      refine Calls.mono (l10call_e nmPrint wa) ?_
      rintro e wb ⟨rfl, hBb⟩
      obtain ⟨h3, hr3⟩ := HI.out.1.lit (hBa.trans (hBb.mono hBa.size)) [insIt ⟨22, 10, 18, 0, 0⟩, callI nmPrint] #[.int .i64 2, .string no, .int .i64 22, .int .i64 10, .int .i64 18, .int .i64 0, .int .i64 0, .int .i64 6, .string nmPrint, .int .i64 0, .int .i64 1, .int .i64 0, .int .i64 0, .int .i64 0] rfl
      generalize hW3 : wb.alloc (.cells #[.int .i64 2, .string no, .int .i64 22, .int .i64 10, .int .i64 18, .int .i64 0, .int .i64 0, .int .i64 6, .string nmPrint, .int .i64 0, .int .i64 1, .int .i64 0, .int .i64 0, .int .i64 0] 28) = W3 at h3 hr3
      have ho3 := h3.own
      unfold OwnT at ho3
      rw [← HI.out.2.2.1] at ho3
      have hs3 := h3.siz
      have HH := Lib.hid (And.intro h3 hW3)
      clear h3 hW3 hBa hBb
      obtain ⟨it2, hit2⟩ : ∃ it2, it2 = it ++ [insIt ⟨22, 10, 18, 0, 0⟩, callI nmPrint] := ⟨_, rfl⟩
      obtain ⟨k2, hk2⟩ : ∃ k2, k2 = it2.length := ⟨_, rfl⟩
      have hk2z : k2 ≤ 20002 := by rw [hk2, hit2, List.length_append, ← HI.out.2.2.1]; show k + 2 ≤ _; omega
      have HI2 := Lib.hid (And.intro hit2 hk2)
      clear hit2 hk2
      have hz0 : (⟨#[]⟩ : ByteArray).size = 0 := rfl
      have hz2 : (⟨#[48, 10]⟩ : ByteArray).size = 2 := rfl
      go_wp2_with (at_builtin; rw [HH.out.2]; refine wpList_app _ rfl _ _ 24 rfl Tryz_elTs B _ k (tcells it) (by exact rfl) ho3 _ (some ⟨wb.heap.size, 0, none⟩) 2 2 (tcells [insIt ⟨22, 10, 18, 0, 0⟩, callI nmPrint]) (by exact rfl) rfl hr3 (tcells_one _) (by simp only [maxLen]; omega) (by omega) hs3 ?_
                   intro v4 w4 h4 hg4 hn4 ha4
                   have h5 : HpW w B bw bf l.length w4 v4 it2 wf F3 := by
                     rw [← tcells_append, ← HI2.out.1] at h4
                     exact HH.out.1.app (by rw [HI2.out.1, HI.out.2.2.1, List.length_append]; rfl) h4 (by rw [← HI.out.2.2.1]; exact hg4)
                   clear h4 hg4 hn4 ha4 ho3 hr3 HH hs3)
      have h40 : l.length ≤ 40 := H40.out
      go_loopw [3, 9, 10] (fun v s iv wr3 => ∃ j : Nat, j ≤ l.length ∧ iv = .int .i64 j ∧ s = .string (strB ([48, 10] ++ chksO (WL l) F3 j)) ∧ HpW w B bw bf l.length wr3 v (it2 ++ chksL (WL l) F3 j) wf F3) (fun _ _ iv _ => l.length - (intOf iv).toNat)
      case atStart => exact ⟨0, by omega, rfl, by first | rfl | decide +kernel, by rw [chksL, List.append_nil]; exact h5⟩
      case round =>
        obtain ⟨j, hj, rfl, rfl, hP⟩ := hrel
        have hsz := chksO_len l F3 j
        have hkL := chksL_len (WL_le l) F3 j
        obtain ⟨A3, c3, rfl, -⟩ := hP.own.form
        obtain ⟨it3, hit3⟩ : ∃ it3, it3 = it2 ++ chksL (WL l) F3 j := ⟨_, rfl⟩
        rw [← hit3] at hP ⊢
        obtain ⟨k3, hk3⟩ : ∃ k3, k3 = it3.length := ⟨_, rfl⟩
        have hk3z : k3 ≤ 22000 := by rw [hk3, hit3, List.length_append, ← HI2.out.2]; omega
        rw [← hk3]
        obtain ⟨s0, hs0⟩ : ∃ s0, s0 = strB ([48, 10] ++ chksO (WL l) F3 j) := ⟨_, rfl⟩
        have hs0z : s0.size ≤ 9000 := by rw [hs0, strB_size, List.length_append]; show 2 + _ ≤ _; omega
        rw [← hs0]
        have HI3 := Lib.hid (And.intro hP (And.intro hit3 (And.intro hk3 hs0)))
        clear hP hit3 hk3 hs0 hsz hkL
        by_cases hlt : j < l.length
        · have td : decide ((j : Int) < (l.length : Int)) = true := decide_eq_true (by omega)
          have hju : (j : Int) < (l.length : Int) := by omega
          have hj40 : j < 40 := by omega
          have hfl := HI3.out.1.flag j hlt
          have hbfl : bf < wr.heap.size := HI3.out.1.lt.2
          cases hFj : F3 j with
          | true =>
            rw [hFj] at hfl
            have HFJ := Lib.hid hFj
            clear hFj
            go_wp2_with fail
            go_roundw
            case rel =>
              refine ⟨j + 1, by omega, by go_num, ?_, ?_⟩
              · rw [chksO, HFJ.out, show cbO (WL l) j true = [] from rfl, List.append_nil, ← HI3.out.2.2.2]
              · rw [chksL, HFJ.out, show cbL (WL l) j true = [] from rfl, List.append_nil, ← HI3.out.2.1, HI3.out.2.2.1]
                exact HI3.out.1
            case measure => simp [intOf]; omega
          | false =>
            rw [hFj] at hfl
            have HFJ := Lib.hid hFj
            clear hFj
            go_wp2_with fail
            refine Calls.mono (l10ins_e 14 10 2 0 (8 * (j : Int)) wr) ?_
            rintro e wa ⟨rfl, hBa⟩
            go_wp2_with fail
            refine Calls.mono (l10ins_e 27 10 10 0 7 wa) ?_
            rintro e wb2 ⟨rfl, hBb⟩
            have hBab : Below wr.heap.size wr wb2 := hBa.trans (hBb.mono hBa.size)
            clear hBa hBb
            go_wp2_with fail
            refine Calls.mono (l10call_e nmPrint wb2) ?_
            rintro e wc ⟨rfl, hBc⟩
            obtain ⟨h3, hr3⟩ := HI3.out.1.lit (hBab.trans (hBc.mono hBab.size)) [insIt ⟨14, 10, 2, 0, (8 * j : Nat)⟩, insIt ⟨27, 10, 10, 0, 7⟩, callI nmPrint] #[.int .i64 2, .string no, .int .i64 14, .int .i64 10, .int .i64 2, .int .i64 0, .int .i64 (8 * (j : Int)), .int .i64 2, .string no, .int .i64 27, .int .i64 10, .int .i64 10, .int .i64 0, .int .i64 7, .int .i64 6, .string nmPrint, .int .i64 0, .int .i64 1, .int .i64 0, .int .i64 0, .int .i64 0] rfl
            generalize hW3 : wc.alloc (.cells #[.int .i64 2, .string no, .int .i64 14, .int .i64 10, .int .i64 2, .int .i64 0, .int .i64 (8 * (j : Int)), .int .i64 2, .string no, .int .i64 27, .int .i64 10, .int .i64 10, .int .i64 0, .int .i64 7, .int .i64 6, .string nmPrint, .int .i64 0, .int .i64 1, .int .i64 0, .int .i64 0, .int .i64 0] 28) = W3 at h3 hr3
            have ho3 := h3.own
            unfold OwnT at ho3
            rw [← HI3.out.2.2.1] at ho3
            have hs3 := h3.siz
            have HH := Lib.hid (And.intro h3 hW3)
            clear h3 hW3 hBab hBc
            obtain ⟨it4, hit4⟩ : ∃ it4, it4 = it3 ++ [insIt ⟨14, 10, 2, 0, (8 * j : Nat)⟩, insIt ⟨27, 10, 10, 0, 7⟩, callI nmPrint] := ⟨_, rfl⟩
            obtain ⟨k4, hk4⟩ : ∃ k4, k4 = it4.length := ⟨_, rfl⟩
            have hk4z : k4 ≤ 22003 := by rw [hk4, hit4, List.length_append, ← HI3.out.2.2.1]; show k3 + 3 ≤ _; omega
            have HI4 := Lib.hid (And.intro hit4 hk4)
            clear hit4 hk4
            go_wp2_with (at_builtin; rw [HH.out.2]; refine wpList_app _ rfl _ _ 24 rfl Tryz_elTs B _ k3 (tcells it3) (by exact rfl) ho3 _ (some ⟨wc.heap.size, 0, none⟩) 3 3 (tcells [insIt ⟨14, 10, 2, 0, (8 * j : Nat)⟩, insIt ⟨27, 10, 10, 0, 7⟩, callI nmPrint]) (by exact rfl) rfl hr3 (tcells_one _) (by simp only [maxLen]; omega) (by omega) hs3 ?_
                         intro v4 w4 h4 hg4 hn4 ha4
                         have h5 : HpW w B bw bf l.length w4 v4 it4 wf F3 := by
                           rw [← tcells_append, ← HI4.out.1] at h4
                           exact HH.out.1.app (by rw [HI4.out.1, HI3.out.2.2.1, List.length_append]; rfl) h4 (by rw [← HI3.out.2.2.1]; exact hg4)
                         clear h4 hg4 hn4 ha4 ho3 hr3 HH hs3)
            obtain ⟨K, hKe⟩ : ∃ K, K = WL l j := ⟨_, rfl⟩
            have hK64 : K ≤ 64 := by rw [hKe]; exact WL_le l j
            have HK := Lib.hid hKe
            clear hKe
            clear hfl hbfl
            go_loopw [3, 9, 11] (fun v s xv wr4 => ∃ c : Nat, c ≤ (K + 6) / 7 ∧ xv = .int .i64 ((7 * c : Nat) : Int) ∧ s = .string (strB ((([48, 10] ++ chksO (WL l) F3 j) ++ [48, 10]) ++ chkO j c)) ∧ HpW w B bw bf l.length wr4 v (it4 ++ chkL j c) wf F3) (fun _ _ xv _ => K + 7 - (intOf xv).toNat)
            case atStart =>
              refine ⟨0, by omega, rfl, ?_, by rw [chkL, List.append_nil]; exact h5⟩
              rw [chkO, List.append_nil, HI3.out.2.2.2]
              exact congrArg Value.string (strB_app _ [48, 10])
            case round =>
              obtain ⟨c, hc, rfl, rfl, hP⟩ := hrel
              have hc10 : c ≤ 10 := by omega
              obtain ⟨x, hx⟩ : ∃ x : Nat, x = 7 * c := ⟨_, rfl⟩
              rw [← hx]
              have cw := hP.word j hlt
              have hwfj : wf j = K := by
                rw [HI.out.2.2.2.2, HK.out]
                show (if j < l.length then WL l j else 0) = _
                rw [if_pos hlt]
              rw [hwfj] at cw
              have hbwl := hP.lt.1
              have hO1 := chkO_len j c
              have hO2 := chksO_len l F3 j
              have hL4 := chkL_len j c
              obtain ⟨s1, hs1⟩ : ∃ s1, s1 = strB ((([48, 10] ++ chksO (WL l) F3 j) ++ [48, 10]) ++ chkO j c) := ⟨_, rfl⟩
              have hs1z : s1.size ≤ 9400 := by
                rw [hs1, strB_size, List.length_append, List.length_append, List.length_append]
                show 2 + _ + 2 + _ ≤ _
                omega
              rw [← hs1]
              have HX := Lib.hid (And.intro hx hs1)
              by_cases hcK : x < K
              · have td2 : decide ((x : Int) < (K : Int)) = true := decide_eq_true (by omega)
                obtain ⟨A5, c5, rfl, -⟩ := hP.own.form
                obtain ⟨it5, hit5⟩ : ∃ it5, it5 = it4 ++ chkL j c := ⟨_, rfl⟩
                rw [← hit5] at hP ⊢
                obtain ⟨k5, hk5⟩ : ∃ k5, k5 = it5.length := ⟨_, rfl⟩
                have hk5z : k5 ≤ 22100 := by rw [hk5, hit5, List.length_append, ← HI4.out.2]; omega
                rw [← hk5]
                have HI5 := Lib.hid (And.intro hP (And.intro hit5 hk5))
                clear hP hit5 hk5 hwfj hx hs1 hO1 hO2 hL4
                have hx64 : x < 64 := by omega
                go_wp2_with fail
                refine Calls.mono (l10ins_e 14 9 2 0 (8 * (j : Int)) wr) ?_
                rintro e wa ⟨rfl, hBa⟩
                go_wp2_with fail
                refine Calls.mono (l10ins_e 14 10 9 0 (8 * (x : Int)) wa) ?_
                rintro e wb3 ⟨rfl, hBb⟩
                have hBab : Below wr.heap.size wr wb3 := hBa.trans (hBb.mono hBa.size)
                clear hBa hBb
                go_wp2_with fail
                refine Calls.mono (l10call_e nmPrint wb3) ?_
                rintro e wc2 ⟨rfl, hBc⟩
                obtain ⟨h3, hr3⟩ := HI5.out.1.lit (hBab.trans (hBc.mono hBab.size)) [insIt ⟨14, 9, 2, 0, (8 * j : Nat)⟩, insIt ⟨14, 10, 9, 0, (8 * x : Nat)⟩, callI nmPrint] #[.int .i64 2, .string no, .int .i64 14, .int .i64 9, .int .i64 2, .int .i64 0, .int .i64 (8 * (j : Int)), .int .i64 2, .string no, .int .i64 14, .int .i64 10, .int .i64 9, .int .i64 0, .int .i64 (8 * (x : Int)), .int .i64 6, .string nmPrint, .int .i64 0, .int .i64 1, .int .i64 0, .int .i64 0, .int .i64 0] rfl
                generalize hW3 : wc2.alloc (.cells #[.int .i64 2, .string no, .int .i64 14, .int .i64 9, .int .i64 2, .int .i64 0, .int .i64 (8 * (j : Int)), .int .i64 2, .string no, .int .i64 14, .int .i64 10, .int .i64 9, .int .i64 0, .int .i64 (8 * (x : Int)), .int .i64 6, .string nmPrint, .int .i64 0, .int .i64 1, .int .i64 0, .int .i64 0, .int .i64 0] 28) = W3 at h3 hr3
                have ho3 := h3.own
                unfold OwnT at ho3
                rw [← HI5.out.2.2] at ho3
                have hs3 := h3.siz
                have HH := Lib.hid (And.intro h3 hW3)
                clear h3 hW3 hBab hBc
                go_wp2_with (at_builtin; rw [HH.out.2]; refine wpList_app _ rfl _ _ 24 rfl Tryz_elTs B _ k5 (tcells it5) (by exact rfl) ho3 _ (some ⟨wc2.heap.size, 0, none⟩) 3 3 (tcells [insIt ⟨14, 9, 2, 0, (8 * j : Nat)⟩, insIt ⟨14, 10, 9, 0, (8 * x : Nat)⟩, callI nmPrint]) (by exact rfl) rfl hr3 (tcells_one _) (by simp only [maxLen]; omega) (by omega) hs3 ?_
                             intro v5 w5 h4 hg4 hn4 ha4
                             have h6 : HpW w B bw bf l.length w5 v5 (it5 ++ [insIt ⟨14, 9, 2, 0, (8 * j : Nat)⟩, insIt ⟨14, 10, 9, 0, (8 * x : Nat)⟩, callI nmPrint]) wf F3 := by
                               rw [← tcells_append] at h4
                               exact HH.out.1.app (by rw [HI5.out.2.2, List.length_append]; rfl) h4 (by rw [← HI5.out.2.2]; exact hg4)
                             have H6 := Lib.hid h6
                             clear h6 h4 hg4 hn4 ha4 ho3 hr3 HH hs3)
                refine Calls.mono (l10digits_any (1000 * (j : Int) + (x : Int) + 1) ⟨by omega, by omega⟩ w5) ?_
                rintro e w6 ⟨rfl, hB6⟩
                have H7 := Lib.hid (H6.out.below hB6)
                obtain ⟨d, hd⟩ : ∃ d, d = strB (decB (wrN (1000 * (j : Int) + (x : Int) + 1))) := ⟨_, rfl⟩
                have hdz : d.size ≤ 21 := by rw [hd, strB_size]; exact decB_len _
                rw [← hd]
                have HD := Lib.hid (show (s1 ++ d) ++ ⟨#[10]⟩ = strB ((([48, 10] ++ chksO (WL l) F3 j) ++ [48, 10]) ++ chkO j (c + 1)) by
                  have e1 : wrN (1000 * (j : Int) + (x : Int) + 1) = 1000 * j + 7 * c + 1 := by rw [HX.out.1]; unfold wrN; omega
                  rw [hd, e1, HX.out.2, strB_app, chkO, ← List.append_assoc, ← List.append_assoc]
                  exact strB_app _ [10])
                have hz1 : (⟨#[10]⟩ : ByteArray).size = 1 := rfl
                clear hd hB6
                go_wp2_with fail
                go_roundw
                case rel =>
                  have e7 := HX.out.1
                  refine ⟨c + 1, by omega, by go_num, by rw [← HD.out], ?_⟩
                  rw [chkL, ← List.append_assoc, ← HI5.out.2.1, ← HX.out.1]
                  exact H7.out
                case measure => simp [intOf]; omega
              · have td2 : decide ((x : Int) < (K : Int)) = false := decide_eq_false (by omega)
                have hcE : (K + 6) / 7 = c := by omega
                have H6 := Lib.hid (And.intro hP hcE)
                clear hP hcE hwfj hx hs1 hO1 hO2 hL4
                go_wp2_with fail
                go_roundw
                case rel =>
                  refine ⟨j + 1, by omega, by go_num, ?_, ?_⟩
                  · rw [chksO, HFJ.out, show cbO (WL l) j false = [48, 10] ++ chkO j c from by rw [← H6.out.2, HK.out]; rfl, HX.out.2]
                    simp only [List.append_assoc]
                  · have e4 : it2 ++ chksL (WL l) F3 (j + 1) = it4 ++ chkL j c := by
                      rw [chksL, HFJ.out, HI4.out.1, HI3.out.2.1, ← H6.out.2, HK.out]
                      simp only [List.append_assoc]
                      rfl
                    rw [e4]
                    exact H6.out.1
                case measure => simp [intOf]; omega
        · have td : decide ((j : Int) < (l.length : Int)) = false := decide_eq_false (by omega)
          obtain rfl : j = l.length := by omega
          go_wp2_with fail
          refine Calls.mono (l10ins_e 22 2 2 0 512 wr) ?_
          rintro e wa ⟨rfl, hBa⟩
          obtain ⟨h3, hr3⟩ := HI3.out.1.lit hBa [insIt ⟨22, 2, 2, 0, 512⟩] #[.int .i64 2, .string no, .int .i64 22, .int .i64 2, .int .i64 2, .int .i64 0, .int .i64 512] rfl
          generalize hW3 : wa.alloc (.cells #[.int .i64 2, .string no, .int .i64 22, .int .i64 2, .int .i64 2, .int .i64 0, .int .i64 512] 28) = W3 at h3 hr3
          have ho3 := h3.own
          unfold OwnT at ho3
          rw [← HI3.out.2.2.1] at ho3
          have hs3 := h3.siz
          have HH := Lib.hid (And.intro h3 hW3)
          clear h3 hW3 hBa
          obtain ⟨itE, hitE⟩ : ∃ itE, itE = it3 ++ [insIt ⟨22, 2, 2, 0, 512⟩] := ⟨_, rfl⟩
          obtain ⟨kE, hkE⟩ : ∃ kE, kE = itE.length := ⟨_, rfl⟩
          have hkEz : kE ≤ 22001 := by rw [hkE, hitE, List.length_append, ← HI3.out.2.2.1]; show k3 + 1 ≤ _; omega
          have HIE := Lib.hid (And.intro hitE hkE)
          clear hitE hkE
          go_wp2_with (at_builtin; rw [HH.out.2]; refine wpList_app _ rfl _ _ 24 rfl Tryz_elTs B _ k3 (tcells it3) (by exact rfl) ho3 _ (some ⟨wa.heap.size, 0, none⟩) 1 1 (tcells [insIt ⟨22, 2, 2, 0, 512⟩]) (by exact rfl) rfl hr3 (tcells_one _) (by simp only [maxLen]; omega) (by omega) hs3 ?_
                       intro v5 w5 h4 hg4 hn4 ha4
                       have h6 : HpW w B bw bf l.length w5 v5 itE wf F3 := by
                         rw [← tcells_append, ← HIE.out.1] at h4
                         exact HH.out.1.app (by rw [HIE.out.1, HI3.out.2.2.1, List.length_append]; rfl) h4 (by rw [← HI3.out.2.2.1]; exact hg4)
                       obtain ⟨A6, c6, rfl, hI6⟩ := h6.own.form
                       have H6 := Lib.hid (And.intro h6 hI6)
                       clear h6 hI6 h4 hg4 hn4 ha4 ho3 hr3 HH hs3)
          refine Calls.mono (l10kept_any w5 A6 c6 itE H6.out.2 (by rw [← HIE.out.2]; omega)) ?_
          rintro e w6 ⟨A7, c7, rfl, hO7, hB7⟩
          have hlow : Below w.heap.size w w6 := H6.out.1.low.trans (hB7.mono H6.out.1.low.size)
          have eK : keptL itE = hpL (WL l) (kbL l) l.length := by
            rw [HIE.out.1, HI3.out.2.1, HI2.out.1, HI.out.2.1, HI.out.2.2.2.1]
            rfl
          have eS : s0 = strB ([48, 10] ++ chksO (WL l) (frF (kbL l) l.length) l.length) := by rw [HI3.out.2.2.2, HI.out.2.2.2.1]
          rw [eK] at hO7
          obtain ⟨A8, c8, e8, hI8⟩ := hO7.form
          cases e8
          obtain ⟨g1, g4⟩ := ran_heap l h40 []
          have hrun := l10run_any w6 A7 c7 (hpL (WL l) (kbL l) l.length) (hpC (WL l) (kbL l) l.length) none 0 [] 30000000 (fun c => c.halted = true ∧ c.code = 0 ∧ c.fault = 0 ∧ c.out = [48, 10] ++ chksO (WL l) (frF (kbL l) l.length) l.length) g1 hI8 (fun i hi => absurd hi (Nat.not_lt_zero i)) (by decide) (HL.out.2.1.below hlow) (HL.out.2.2.below hlow) (by decide) g4
          have HRN := Lib.hid (And.intro hrun (And.intro eS hlow))
          obtain ⟨q, hq⟩ : ∃ q, q = (hpL (WL l) (kbL l) l.length).length := ⟨_, rfl⟩
          rw [eK]
          rw [← hq] at HRN ⊢
          clear hrun eS hlow hO7 hB7 hI8 g1 g4 hq eK
          go_wp2_with fail
          refine Calls.mono HRN.out.1 ?_
          rintro e w7 ⟨c, ov, rfl, hlen, ⟨q1, q2, q3, q4⟩, hO, hol, hB8⟩
          have hB07 : Below w.heap.size w w7 := HRN.out.2.2.trans (hB8.mono HRN.out.2.2.size)
          obtain ⟨ds, hds⟩ : ∃ ds, ds = (c.cells ov).toArray := ⟨_, rfl⟩
          have hdz : ds.size = 39 := by rw [hds, List.size_toArray, ccells_len hlen]
          have hin : (Tryz.prog.info? 37).map (·.size) = some ds.size := by rw [hdz]; exact Tryz_sizeCpu2
          have hold : cpuZ.size = ds.size := by rw [hdz]; rfl
          have hone : ds.all (·.oneCell') = true := by rw [hds]; exact cells_oneA hO.one
          have HK := Lib.hid (And.intro hin (And.intro hold (And.intro hone (And.intro hds (And.intro hlen (And.intro q1 (And.intro q2 (And.intro q4 (And.intro hO hB07)))))))))
          rw [← hds]
          have hs7 := hB07.size
          clear hdz hin hold hone hds hlen q1 q2 q3 q4 hO hol hB8 hB07
          go_upto_region 38 with
            (refine wpList_store_row (o := ⟨none, Op.store 37 (.tmp 12) (.tmp 196), _, _, _, _⟩) rfl 37 (.tmp 12) (.tmp 196) rfl w7.heap.size ds rfl rfl 37 _ (heap_alloc_new w7 _) HK.out.1 HK.out.2.1 HK.out.2.2.1 ?_
             generalize hW5 : World.setRow _ _ _ = W5
             have hr5 : W5.heap[w7.heap.size]? = some (.cells ds 37 (0, 0)) := by rw [← hW5]; exact setRow_heap _ _ _ _ _ _ (heap_alloc_new w7 _)
             have hB5 : Below w7.heap.size w7 W5 := by rw [← hW5]; exact below_setRow ((Below.refl _ _).alloc (Nat.le_refl _) _) (Nat.le_refl _) _
             obtain ⟨x34, x35, x36, x37⟩ := ended_cells (by rw [← HK.out.2.2.2.1]; exact hr5) HK.out.2.2.2.2.1
             rw [HK.out.2.2.2.2.2.1] at x34
             rw [HK.out.2.2.2.2.2.2.1] at x35
             have hcv := conv_own (HK.out.2.2.2.2.2.2.2.2.1.below hB5)
             rw [HK.out.2.2.2.2.2.2.2.1] at hcv
             have hcv2 : (convert 35 9 ov).run Tryz.prog W5 = .ok (.string s0) W5 := by rw [HRN.out.2.1]; exact hcv
             have hlt5 := lt_of_block hr5
             have hB05 : Below w.heap.size w W5 := HK.out.2.2.2.2.2.2.2.2.2.trans (hB5.mono HK.out.2.2.2.2.2.2.2.2.2.size)
             clear hW5 hr5 hcv hB5)
          go_wp2_with (go_at_call 9; refine Calls.mono (HS.out _ hB05) ?_
                       rintro e w10 ⟨rfl, hB10⟩
                       have hBw10 := hB05.trans (hB10.mono hB05.size)
                       clear hB10)
          go_ret
          exact ⟨rfl, hBw10⟩
end Go.Proofs
