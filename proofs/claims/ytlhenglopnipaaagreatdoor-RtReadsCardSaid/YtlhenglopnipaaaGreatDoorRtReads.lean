/- patinalaw10.RtReads: the walk. -/
import Derived.Test.YtlhenglopnipaaaGreatDoorRtDg
namespace Go.Pat
open Go Go.RowKit Go.Proofs
def rdV (inp : List UInt8) (k : Nat) : Nat := if k < inp.length then (inp.getD k 0).toNat else 18446744073709551615
theorem reads_snoc (inp : List UInt8) : ∀ (n i : Nat), i ≤ inp.length → readsO inp i (n + 1) = readsO inp i n ++ (decB (rdV inp (i + n)) ++ [10])
  | 0, i, _ => by
    show (decB _ ++ [10]) ++ [] = [] ++ _
    rw [List.append_nil, List.nil_append]
    rfl
  | n + 1, i, h => by
    rw [readsO]
    conv => rhs; rw [readsO]
    by_cases hi : i < inp.length
    · rw [if_pos hi, if_pos hi, reads_snoc inp n (i + 1) hi, show i + 1 + n = i + (n + 1) by omega]
      simp only [List.append_assoc]
    · have e : rdV inp (i + n) = rdV inp (i + (n + 1)) := by unfold rdV; rw [if_neg (by omega), if_neg (by omega)]
      rw [if_neg hi, if_neg hi, reads_snoc inp n i h, e]
      simp only [List.append_assoc]
theorem readsL_snoc : ∀ n : Nat, readsL (n + 1) = readsL n ++ [callI nmRead, callI nmPrint]
  | 0 => rfl
  | n + 1 => by
    show [callI nmRead] ++ ([callI nmPrint] ++ readsL (n + 1)) = ([callI nmRead] ++ ([callI nmPrint] ++ readsL n)) ++ [callI nmRead, callI nmPrint]
    rw [readsL_snoc n]
    simp only [List.append_assoc]
theorem readsO_len (inp : List UInt8) : ∀ (n i : Nat), (readsO inp i n).length ≤ 22 * n
  | 0, _ => Nat.le_refl _
  | n + 1, i => by
    rw [readsO]
    have h1 := readsO_len inp n (if i < inp.length then i + 1 else i)
    have h2 := decB_len (if i < inp.length then (inp.getD i 0).toNat else 18446744073709551615)
    simp only [List.length_append, List.length_cons, List.length_nil]
    omega
theorem decB_m1 : decB 18446744073709551615 = [45, 49] := by decide +kernel
end Go.Pat
namespace Go.Proofs
open Go Go.RowKit Go.Pat
/-- a run that reads. -/
theorem ran_reads (k : Nat) (hk : k ≤ 50) (inp : List UInt8) (n : Nat) (h : 245 * k + 13 ≤ n) :
    Asmd (readsL k) (readsC 65856 k) ∧
    ∀ fs : List Fr, fs.map Fr.pg = loadT (img3 (insB (allC (readsC 65856 k)))) 3 → lens fs → (runM n ⟨c0, fs, inp⟩).2.c.halted = true ∧ (runM n ⟨c0, fs, inp⟩).2.c.code = 0 ∧ (runM n ⟨c0, fs, inp⟩).2.c.fault = 0 ∧ (runM n ⟨c0, fs, inp⟩).2.c.out = readsO inp 0 k := by
  have hL := lay_reads k 65856 (by decide) (by decide) (by omega)
  have h1 := readsL_len k
  have h2 := readsC_len k 65856
  have hA := hL.asmd (by omega) (by omega)
  exact ⟨hA, fun fs hfs hlen => main_run hA (reads_body k inp hk) hfs hlen n h⟩
theorem b_at {B : Nat} {w : World} {A : Option Addr} {l : List UInt8} (h : Bs B w A l) (j : Nat) (hj : j < l.length) : ∃ b o, A = some ⟨b, o, none⟩ ∧ b < B ∧ w.cell? ⟨b, o + j, none⟩ = some (.int .u8 ((l[j]).toNat : Int)) := by
  obtain ⟨b, o, rfl, hb, hc⟩ := h j (by rw [bcells_length]; exact hj)
  refine ⟨b, o, rfl, hb, ?_⟩
  rw [hc]
  simp [bcells, bval]
set_option maxRecDepth 20000 in
set_option maxHeartbeats 32000000 in
theorem RtReads_any (w : World) (JA : Option Addr) (jc : Nat) (inp : List UInt8) (n : Int) (hI : Bs w.heap.size w JA inp) (hil : inp.length ≤ 140737488355328) (htz : TzTab w) (hrv : RvRows w) :
    Calls Tryz.prog 4 #[.slice JA inp.length jc, .int .i64 n] w fun e w' => e = .returned (.bool true) ∧ Below w.heap.size w w' := by
  have HS := Lib.hid (fun (w1 : World) (h : Below w.heap.size w w1) => speaks10_any w1 (htz.below h) (hrv.below h))
  have HL := Lib.hid (And.intro hI (And.intro htz hrv))
  clear hI htz hrv
  cases c0 : decide (n < 0)
  rotate_left
  · go_enter Tryz.func4, Tryz.ntmps4
    go_wp2_with fail
    refine Calls.mono (HS.out w (Below.refl _ _)) ?_
    rintro e w1 ⟨rfl, hB1⟩
    go_wp2
    go_ret
    exact ⟨rfl, hB1⟩
  cases c50 : decide ((50 : Int) < n)
  rotate_left
  · go_enter Tryz.func4, Tryz.ntmps4
    go_wp2_with fail
    refine Calls.mono (HS.out w (Below.refl _ _)) ?_
    rintro e w1 ⟨rfl, hB1⟩
    go_wp2
    go_ret
    exact ⟨rfl, hB1⟩
  cases c65 : decide ((65536 : Int) < (inp.length : Int))
  rotate_left
  · go_enter Tryz.func4, Tryz.ntmps4
    go_wp2_with fail
    refine Calls.mono (HS.out w (Below.refl _ _)) ?_
    rintro e w1 ⟨rfl, hB1⟩
    go_wp2
    go_ret
    exact ⟨rfl, hB1⟩
  obtain ⟨N, rfl, hN⟩ : ∃ N : Nat, n = N ∧ N ≤ 50 := ⟨n.toNat, by have := of_decide_eq_false c0; omega, by have := of_decide_eq_false c50; omega⟩
  go_enter Tryz.func4, Tryz.ntmps4
  go_wp2_with fail
  go_loopw [5, 6, 7] (fun v s i wr => ∃ j : Nat, j ≤ N ∧ i = .int .i64 j ∧ s = .string (strB (readsO inp 0 j)) ∧ OwnT wr w.heap.size v (readsL j) ∧ Below w.heap.size w wr) (fun _ _ i _ => N - (intOf i).toNat)
  case atStart => exact ⟨0, by omega, rfl, rfl, .nil _ _, Below.refl _ _⟩
  case round =>
    obtain ⟨j, hj, rfl, rfl, hO, hB⟩ := hrel
    by_cases hlt : j < N
    · have td : decide ((j : Int) < (N : Int)) = true := decide_eq_true (by omega)
      have hj50 : j < 50 := by omega
      obtain ⟨A1, c1, rfl, -⟩ := hO.form
      have hpl : (readsL j).length = 2 * j := readsL_len j
      have hsz := readsO_len inp j 0
      have hsz1 : (readsO inp 0 j).length ≤ 1100 := by omega
      obtain ⟨k, hk⟩ : ∃ k, k = (readsL j).length := ⟨_, rfl⟩
      have HX := Lib.hid (And.intro hO (And.intro hB (And.intro (hk.trans hpl) hk)))
      rw [← hk]
      have hk50 : k < 100 := by omega
      obtain ⟨s0, hs0⟩ : ∃ s0, s0 = strB (readsO inp 0 j) := ⟨_, rfl⟩
      have hs0z : s0.size ≤ 1100 := by rw [hs0, strB_size]; exact hsz1
      rw [← hs0]
      have HS0 := Lib.hid hs0
      clear hO hpl hsz hsz1 hk hs0 hB
      go_wp2_with fail
      refine Calls.mono (l10call_e nmRead wr) ?_
      rintro e w1 ⟨rfl, hB1⟩
      go_wp2_with fail
      refine Calls.mono (l10call_e nmPrint w1) ?_
      rintro e w2 ⟨rfl, hB2⟩
      have hB02 : Below wr.heap.size wr w2 := hB1.trans (hB2.mono hB1.size)
      obtain ⟨W3, hW3⟩ : ∃ W3 : World, W3 = w2.alloc (.cells #[.int .i64 6, .string nmRead, .int .i64 0, .int .i64 1, .int .i64 0, .int .i64 0, .int .i64 0, .int .i64 6, .string nmPrint, .int .i64 0, .int .i64 1, .int .i64 0, .int .i64 0, .int .i64 0] 28) := ⟨_, rfl⟩
      have hB03 : Below wr.heap.size wr W3 := by rw [hW3]; exact hB02.alloc hB02.size _
      have ho3 := HX.out.1.below hB03
      unfold OwnT at ho3
      rw [← HX.out.2.2.2] at ho3
      have hr3 : Cs W3.heap.size W3 (some ⟨w2.heap.size, 0, none⟩) (tcells [callI nmRead, callI nmPrint]) := by rw [hW3]; exact it_lit [callI nmRead, callI nmPrint] w2 28
      have hs3 : w.heap.size ≤ W3.heap.size := Nat.le_trans HX.out.2.1.size hB03.size
      have HW3 := Lib.hid hW3
      clear hB1 hB2 hW3 hB02
      by_cases hji : j < inp.length
      · have tj : decide ((j : Int) < (inp.length : Int)) = true := decide_eq_true (by omega)
        have hju : (j : Int) < (inp.length : Int) := by omega
        obtain ⟨x, hx⟩ : ∃ x : Nat, x = (inp[j]).toNat := ⟨_, rfl⟩
        have hx8 : x < 256 := by rw [hx]; exact UInt8.toNat_lt _
        have hv : rdV inp (0 + j) = wrN (x : Int) := by
          unfold rdV wrN
          rw [Nat.zero_add, if_pos hji, List.getD_eq_getElem?_getD, List.getElem?_eq_getElem hji]
          show (inp[j]).toNat = _
          omega
        obtain ⟨b, o, rfl, hb, y0⟩ := b_at HL.out.1 j hji
        rw [← hx] at y0
        have HY0 := Lib.hid y0
        have HV := Lib.hid hv
        clear hx hv y0
        go_wp2_with (at_builtin; rw [← HW3.out]; refine wpList_app _ rfl _ _ 24 rfl Tryz_elTs w.heap.size _ k (tcells (readsL j)) (by exact rfl) ho3 _ (some ⟨w2.heap.size, 0, none⟩) 2 2 (tcells [callI nmRead, callI nmPrint]) (by exact rfl) rfl hr3 (tcells_one _) (by simp only [maxLen]; omega) (by omega) hs3 ?_
                     intro v4 w4 h4 hg4 hn4 ha4
                     have hB4 : Below w.heap.size w w4 := (HX.out.2.1.trans (hB03.mono HX.out.2.1.size)).grown hg4 hs3 (fun q hq => (ho3.lt q hq).1)
                     have hO4 : OwnT w4 w.heap.size v4 (readsL (j + 1)) := by
                       have e1 : (readsL (j + 1)).length = k + 2 := by rw [readsL_len, HX.out.2.2.1]; omega
                       unfold OwnT
                       rw [e1, readsL_snoc, tcells_append]
                       exact h4
                     have y4 : w4.cell? ⟨b, o + j, none⟩ = some (.int .u8 (x : Int)) := (hB4.cell (p := ⟨b, o + j, none⟩) hb).trans HY0.out
                     have hbl4 : b < w4.heap.size := Nat.lt_of_lt_of_le hb hB4.size
                     clear h4 hg4 hn4 ha4 ho3 hr3 hB03)
        refine Calls.mono (l10digits_any (x : Int) ⟨by omega, by omega⟩ w4) ?_
        rintro e w5 ⟨rfl, hB5⟩
        have hB05 : Below w.heap.size w w5 := hB4.trans (hB5.mono hB4.size)
        have hO5 := hO4.below hB5
        obtain ⟨d, hd⟩ : ∃ d, d = strB (decB (wrN (x : Int))) := ⟨_, rfl⟩
        have hdz : d.size ≤ 21 := by rw [hd, strB_size]; exact decB_len _
        rw [← hd]
        have HD := Lib.hid (show (s0 ++ d) ++ ⟨#[10]⟩ = strB (readsO inp 0 (j + 1)) by
          rw [reads_snoc inp j 0 (Nat.zero_le _), HV.out, HS0.out, hd, strB_app, ← List.append_assoc]
          exact strB_app _ [10])
        have HY := Lib.hid (And.intro hO5 hB05)
        have hz1 : (⟨#[10]⟩ : ByteArray).size = 1 := rfl
        clear hd hO5 hB05 hO4 hB4 hB5
        go_wp2_with fail
        go_roundw
        case rel => exact ⟨j + 1, by omega, by go_num, by rw [← HD.out], HY.out.1, HY.out.2⟩
        case measure => simp [intOf]; omega
      · have tj : decide ((j : Int) < (inp.length : Int)) = false := decide_eq_false (by omega)
        have HD := Lib.hid (show s0 ++ ⟨#[45, 49, 10]⟩ = strB (readsO inp 0 (j + 1)) by
          rw [reads_snoc inp j 0 (Nat.zero_le _), HS0.out]
          unfold rdV
          rw [if_neg (by omega), decB_m1]
          exact strB_app _ [45, 49, 10])
        have hz1 : (⟨#[45, 49, 10]⟩ : ByteArray).size = 3 := rfl
        go_wp2_with (at_builtin; rw [← HW3.out]; refine wpList_app _ rfl _ _ 24 rfl Tryz_elTs w.heap.size _ k (tcells (readsL j)) (by exact rfl) ho3 _ (some ⟨w2.heap.size, 0, none⟩) 2 2 (tcells [callI nmRead, callI nmPrint]) (by exact rfl) rfl hr3 (tcells_one _) (by simp only [maxLen]; omega) (by omega) hs3 ?_
                     intro v4 w4 h4 hg4 hn4 ha4
                     have hB4 : Below w.heap.size w w4 := (HX.out.2.1.trans (hB03.mono HX.out.2.1.size)).grown hg4 hs3 (fun q hq => (ho3.lt q hq).1)
                     have hO4 : OwnT w4 w.heap.size v4 (readsL (j + 1)) := by
                       have e1 : (readsL (j + 1)).length = k + 2 := by rw [readsL_len, HX.out.2.2.1]; omega
                       unfold OwnT
                       rw [e1, readsL_snoc, tcells_append]
                       exact h4
                     have HY := Lib.hid (And.intro hO4 hB4)
                     clear h4 hg4 hn4 ha4 ho3 hr3 hB03 hO4 hB4)
        go_roundw
        case rel => exact ⟨j + 1, by omega, by go_num, by rw [← HD.out], HY.out.1, HY.out.2⟩
        case measure => simp [intOf]; omega
    · have td : decide ((j : Int) < (N : Int)) = false := decide_eq_false (by omega)
      obtain rfl : j = N := by omega
      obtain ⟨IA, ic, rfl, hI⟩ := hO.form
      obtain ⟨W0, hW0⟩ : ∃ W0, W0 = wr := ⟨_, rfl⟩
      subst hW0
      obtain ⟨S, hS⟩ : ∃ S, S = strB (readsO inp 0 j) := ⟨_, rfl⟩
      rw [← hS]
      obtain ⟨g1, g4⟩ := ran_reads j hN inp 1000000 (by omega)
      have hrun := l10run_any W0 IA ic (readsL j) (readsC 65856 j) JA jc inp 1000000 (fun c => c.halted = true ∧ c.code = 0 ∧ c.fault = 0 ∧ c.out = readsO inp 0 j) g1 hI ((HL.out.1.below hB).mono hB.size) hil (HL.out.2.1.below hB) (HL.out.2.2.below hB) (by decide) g4
      have HRN := Lib.hid (And.intro hrun (And.intro hS hB))
      clear hrun hS hB hO hI g1 g4
      go_wp2_with fail
      refine Calls.mono HRN.out.1 ?_
      rintro e w4 ⟨c, ov, rfl, hlen, ⟨q1, q2, q3, q4⟩, hO, hol, hB4⟩
      have hB04 : Below w.heap.size w w4 := HRN.out.2.2.trans (hB4.mono HRN.out.2.2.size)
      obtain ⟨ds, hds⟩ : ∃ ds, ds = (c.cells ov).toArray := ⟨_, rfl⟩
      have hdz : ds.size = 39 := by rw [hds, List.size_toArray, ccells_len hlen]
      have hin : (Tryz.prog.info? 37).map (·.size) = some ds.size := by rw [hdz]; exact Tryz_sizeCpu2
      have hold : cpuZ.size = ds.size := by rw [hdz]; rfl
      have hone : ds.all (·.oneCell') = true := by rw [hds]; exact cells_oneA hO.one
      have HK := Lib.hid (And.intro hin (And.intro hold (And.intro hone (And.intro hds (And.intro hlen (And.intro q1 (And.intro q2 (And.intro q4 (And.intro hO hB04)))))))))
      rw [← hds]
      have hs4 := hB04.size
      clear hdz hin hold hone hds hlen q1 q2 q3 q4 hO hol hB4 hB04
      go_wp2_with (first
        | (refine wpList_store_row (o := ⟨none, Op.store 37 (.tmp 8) (.tmp 51), _, _, _, _⟩) rfl 37 (.tmp 8) (.tmp 51) rfl w4.heap.size ds rfl rfl 37 _ (heap_alloc_new w4 _) HK.out.1 HK.out.2.1 HK.out.2.2.1 ?_
           generalize hW5 : World.setRow _ _ _ = W5
           have hr5 : W5.heap[w4.heap.size]? = some (.cells ds 37 (0, 0)) := by rw [← hW5]; exact setRow_heap _ _ _ _ _ _ (heap_alloc_new w4 _)
           have hB5 : Below w4.heap.size w4 W5 := by rw [← hW5]; exact below_setRow ((Below.refl _ _).alloc (Nat.le_refl _) _) (Nat.le_refl _) _
           obtain ⟨x34, x35, x36, x37⟩ := ended_cells (by rw [← HK.out.2.2.2.1]; exact hr5) HK.out.2.2.2.2.1
           rw [HK.out.2.2.2.2.2.1] at x34
           rw [HK.out.2.2.2.2.2.2.1] at x35
           have hcv := conv_own (HK.out.2.2.2.2.2.2.2.2.1.below hB5)
           rw [HK.out.2.2.2.2.2.2.2.1] at hcv
           have hcv2 : (convert 35 9 ov).run Tryz.prog W5 = .ok (.string S) W5 := by rw [HRN.out.2.1]; exact hcv
           have hlt5 := lt_of_block hr5
           have hB05 : Below w.heap.size w W5 := HK.out.2.2.2.2.2.2.2.2.2.trans (hB5.mono HK.out.2.2.2.2.2.2.2.2.2.size)
           clear hW5 hr5 hcv hB5)
        | (go_at_call 9; refine Calls.mono (HS.out _ hB05) ?_
           rintro e w10 ⟨rfl, hB10⟩
           have hBw10 := hB05.trans (hB10.mono hB05.size)
           clear hB10))
      go_ret
      exact ⟨rfl, hBw10⟩
end Go.Proofs
