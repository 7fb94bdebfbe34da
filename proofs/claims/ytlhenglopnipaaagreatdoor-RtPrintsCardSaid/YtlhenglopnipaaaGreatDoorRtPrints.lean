/- patinalaw10.RtPrints: the walk. -/
import Derived.Test.YtlhenglopnipaaaGreatDoorRtDg
namespace Go.Pat
open Go Go.RowKit Go.Proofs
theorem printed_len : ∀ l : List Int, (printed l).length ≤ 22 * l.length
  | [] => Nat.le_refl _
  | n :: l => by
    have h1 := decB_len (wrN n)
    have h2 := printed_len l
    simp only [printed, List.length_append, List.length_cons, List.length_nil]
    omega
theorem printed_app (a b : List Int) : printed (a ++ b) = printed a ++ printed b := by
  induction a with
  | nil => rfl
  | cons x r ih => rw [List.cons_append, printed, printed, ih]; simp only [List.append_assoc]
theorem printsL_app (a b : List Int) : printsL (a ++ b) = printsL a ++ printsL b := by
  induction a with
  | nil => rfl
  | cons x r ih => rw [List.cons_append, printsL, printsL, ih]; simp only [List.append_assoc]
theorem prints_take (l : List Int) (j : Nat) (hj : j < l.length) : printsL (l.take (j + 1)) = printsL (l.take j) ++ [liIt 10 l[j], callI nmPrint] ∧ printed (l.take (j + 1)) = (printed (l.take j) ++ decB (wrN l[j])) ++ [10] := by
  rw [List.take_add_one, List.getElem?_eq_getElem hj, printsL_app, printed_app]
  refine ⟨rfl, ?_⟩
  show _ ++ ((decB (wrN l[j]) ++ [10]) ++ []) = _
  rw [List.append_nil, List.append_assoc]
end Go.Pat
namespace Go.Proofs
open Go Go.RowKit Go.Pat
set_option maxRecDepth 20000 in
set_option maxHeartbeats 32000000 in
theorem RtPrints_any (w : World) (LA : Option Addr) (lc : Nat) (l : List Int) (hl : Cs w.heap.size w LA (zcells l)) (hn : ∀ n ∈ l, i64B n) (hll : l.length ≤ 9223372036854775807) (htz : TzTab w) (hrv : RvRows w) :
    Calls Tryz.prog 3 #[.slice LA l.length lc] w fun e w' => e = .returned (.bool true) ∧ Below w.heap.size w w' := by
  have HS := Lib.hid (fun (w1 : World) (h : Below w.heap.size w w1) => speaks10_any w1 (htz.below h) (hrv.below h))
  have HL := Lib.hid (And.intro hl (And.intro hn (And.intro htz hrv)))
  clear hl hn htz hrv
  cases c50 : decide ((50 : Int) < (l.length : Int))
  rotate_left
  · go_enter Tryz.func3, Tryz.ntmps3
    go_wp2_with fail
    refine Calls.mono (HS.out w (Below.refl _ _)) ?_
    rintro e w1 ⟨rfl, hB1⟩
    go_wp2
    go_ret
    exact ⟨rfl, hB1⟩
  have h50 : l.length ≤ 50 := by have := of_decide_eq_false c50; omega
  have H50 := Lib.hid h50
  clear h50
  go_enter Tryz.func3, Tryz.ntmps3
  go_wp2_with fail
  go_loopw [3, 4, 5] (fun v s i wr => ∃ j : Nat, j ≤ l.length ∧ i = .int .i64 j ∧ s = .string (strB (printed (l.take j))) ∧ OwnT wr w.heap.size v (printsL (l.take j)) ∧ Below w.heap.size w wr) (fun _ _ i _ => l.length - (intOf i).toNat)
  case atStart => exact ⟨0, by omega, rfl, rfl, .nil _ _, Below.refl _ _⟩
  case round =>
    obtain ⟨j, hj, rfl, rfl, hO, hB⟩ := hrel
    by_cases hlt : j < l.length
    · have td : decide ((j : Int) < (l.length : Int)) = true := decide_eq_true (by omega)
      have hju : (j : Int) < (l.length : Int) := by omega
      have hj50 : j < 50 := by have := H50.out; omega
      obtain ⟨b, o, rfl, hb, y0⟩ := z_at (HL.out.1.below hB) j hlt
      have hxr := HL.out.2.1 l[j] (List.getElem_mem _)
      have hbl : b < wr.heap.size := Nat.lt_of_lt_of_le hb hB.size
      obtain ⟨x, hx⟩ : ∃ x, x = l[j] := ⟨_, rfl⟩
      rw [← hx] at y0 hxr
      obtain ⟨A1, c1, rfl, -⟩ := hO.form
      have hpl : (printsL (l.take j)).length = 2 * j := by rw [printsL_len, List.length_take]; omega
      have hsz := printed_len (l.take j)
      have hsz1 : (printed (l.take j)).length ≤ 1100 := by rw [List.length_take] at hsz; omega
      obtain ⟨k, hk⟩ : ∃ k, k = (printsL (l.take j)).length := ⟨_, rfl⟩
      have HX := Lib.hid (And.intro hx (And.intro hO (And.intro hB (And.intro (hk.trans hpl) hk))))
      rw [← hk]
      have hk50 : k < 100 := by omega
      obtain ⟨s0, hs0⟩ : ∃ s0, s0 = strB (printed (l.take j)) := ⟨_, rfl⟩
      have hs0z : s0.size ≤ 1100 := by rw [hs0, strB_size]; exact hsz1
      rw [← hs0]
      have HS0 := Lib.hid hs0
      clear hO hx hpl hsz hsz1 hk hs0 hB
      go_wp2_with fail
      refine Calls.mono (l10li_e 10 x wr) ?_
      rintro e w1 ⟨rfl, hB1⟩
      go_wp2_with fail
      refine Calls.mono (l10call_e nmPrint w1) ?_
      rintro e w2 ⟨rfl, hB2⟩
      have hB02 : Below wr.heap.size wr w2 := hB1.trans (hB2.mono hB1.size)
      obtain ⟨W3, hW3⟩ : ∃ W3 : World, W3 = w2.alloc (.cells #[.int .i64 3, .string no, .int .i64 0, .int .i64 10, .int .i64 0, .int .i64 0, .int .i64 x, .int .i64 6, .string nmPrint, .int .i64 0, .int .i64 1, .int .i64 0, .int .i64 0, .int .i64 0] 28) := ⟨_, rfl⟩
      have hB03 : Below wr.heap.size wr W3 := by rw [hW3]; exact hB02.alloc hB02.size _
      have ho3 := HX.out.2.1.below hB03
      unfold OwnT at ho3
      rw [← HX.out.2.2.2.2] at ho3
      have hr3 : Cs W3.heap.size W3 (some ⟨w2.heap.size, 0, none⟩) (tcells [liIt 10 x, callI nmPrint]) := by rw [hW3]; exact it_lit [liIt 10 x, callI nmPrint] w2 28
      have hs3 : w.heap.size ≤ W3.heap.size := Nat.le_trans HX.out.2.2.1.size hB03.size
      have HW3 := Lib.hid hW3
      clear hB1 hB2 hW3 hB02
      go_wp2_with (at_builtin; rw [← HW3.out]; refine wpList_app _ rfl _ _ 24 rfl Tryz_elTs w.heap.size _ k (tcells (printsL (l.take j))) (by exact rfl) ho3 _ (some ⟨w2.heap.size, 0, none⟩) 2 2 (tcells [liIt 10 x, callI nmPrint]) (by exact rfl) rfl hr3 (tcells_one _) (by simp only [maxLen]; omega) (by omega) hs3 ?_
                   intro v4 w4 h4 hg4 hn4 ha4
                   have hB4 : Below w.heap.size w w4 := (HX.out.2.2.1.trans (hB03.mono HX.out.2.2.1.size)).grown hg4 hs3 (fun q hq => (ho3.lt q hq).1)
                   have hO4 : OwnT w4 w.heap.size v4 (printsL (l.take (j + 1))) := by
                     have e1 : (printsL (l.take (j + 1))).length = k + 2 := by rw [printsL_len, List.length_take, HX.out.2.2.2.1]; omega
                     unfold OwnT
                     rw [e1, (prints_take l j hlt).1, ← HX.out.1, tcells_append]
                     exact h4
                   have y4 : w4.cell? ⟨b, o + j, none⟩ = some (.int .i64 x) := by
                     obtain ⟨b2, o2, e2, -, y⟩ := z_at (HL.out.1.below hB4) j hlt
                     cases e2
                     rw [y, HX.out.1]
                   have hbl4 : b < w4.heap.size := Nat.lt_of_lt_of_le hb hB4.size
                   clear h4 hg4 hn4 ha4 ho3 hr3 hB03 y0)
      refine Calls.mono (l10digits_any x hxr w4) ?_
      rintro e w5 ⟨rfl, hB5⟩
      have hB05 : Below w.heap.size w w5 := hB4.trans (hB5.mono hB4.size)
      have hO5 := hO4.below hB5
      obtain ⟨d, hd⟩ : ∃ d, d = strB (decB (wrN x)) := ⟨_, rfl⟩
      have hdz : d.size ≤ 21 := by rw [hd, strB_size]; exact decB_len _
      rw [← hd]
      have HD := Lib.hid (show (s0 ++ d) ++ ⟨#[10]⟩ = strB (printed (l.take (j + 1))) by
        rw [(prints_take l j hlt).2, ← HX.out.1, HS0.out, hd, strB_app]
        exact strB_app _ [10])
      have HY := Lib.hid (And.intro hO5 hB05)
      have hz1 : (⟨#[10]⟩ : ByteArray).size = 1 := rfl
      clear hd hO5 hB05 hO4 hB4 hB5
      go_wp2_with fail
      go_roundw
      case rel => exact ⟨j + 1, by omega, by go_num, by rw [← HD.out], HY.out.1, HY.out.2⟩
      case measure => simp [intOf]; omega
    · have td : decide ((j : Int) < (l.length : Int)) = false := decide_eq_false (by omega)
      obtain rfl : j = l.length := by omega
      rw [List.take_length] at hO ⊢
      obtain ⟨IA, ic, rfl, hI⟩ := hO.form
      obtain ⟨W0, hW0⟩ : ∃ W0, W0 = wr := ⟨_, rfl⟩
      subst hW0
      obtain ⟨S, hS⟩ : ∃ S, S = strB (printed l) := ⟨_, rfl⟩
      rw [← hS]
      have h50 := H50.out
      obtain ⟨g1, g4⟩ := ran_prints l h50 HL.out.2.1 [] 1000000 (by omega)
      have hrun := l10run_any W0 IA ic (printsL l) (printsC 65856 l) none 0 [] 1000000 (fun c => c.halted = true ∧ c.code = 0 ∧ c.fault = 0 ∧ c.out = printed l) g1 hI (fun i hi => absurd hi (Nat.not_lt_zero i)) (by decide) (HL.out.2.2.1.below hB) (HL.out.2.2.2.below hB) (by decide) g4
      have HRN := Lib.hid (And.intro hrun (And.intro hS hB))
      clear hrun hS hB hO hI g1 g4 h50
      go_wp2_with fail
      refine Calls.mono HRN.out.1 ?_
      rintro e w4 ⟨c, ov, rfl, hlen, ⟨q1, q2, q3, q4⟩, hO, hol, hB4⟩
      have hB04 : Below w.heap.size w w4 := HRN.out.2.2.trans (hB4.mono HRN.out.2.2.size)
      obtain ⟨ds, hds⟩ : ∃ ds, ds = (c.cells ov).toArray := ⟨_, rfl⟩
      have hdz : ds.size = 39 := by rw [hds, List.size_toArray, ccells_len hlen]
      have hin : (Tryz.prog.info? 37).map (·.size) = some ds.size := by rw [hdz]; exact Tryz_sizeCpu2
      have hold : cpuZ.size = ds.size := by rw [hdz]; rfl
      have hone : ds.all (·.oneCell') = true := by rw [hds]; exact cells_oneA hO.one
      have HK := Lib.hid (And.intro hin (And.intro hold (And.intro hone (And.intro hds (And.intro hlen (And.intro q1 (And.intro q2 (And.intro q4 (And.intro hO hB04)))))))))
      rw [← hds]
      have hs4 := hB04.size
      clear hdz hin hold hone hds hlen q1 q2 q3 q4 hO hol hB4 hB04
      go_wp2_with (first
        | (refine wpList_store_row (o := ⟨none, Op.store 37 (.tmp 6) (.tmp 38), _, _, _, _⟩) rfl 37 (.tmp 6) (.tmp 38) rfl w4.heap.size ds rfl rfl 37 _ (heap_alloc_new w4 _) HK.out.1 HK.out.2.1 HK.out.2.2.1 ?_
           generalize hW5 : World.setRow _ _ _ = W5
           have hr5 : W5.heap[w4.heap.size]? = some (.cells ds 37 (0, 0)) := by rw [← hW5]; exact setRow_heap _ _ _ _ _ _ (heap_alloc_new w4 _)
           have hB5 : Below w4.heap.size w4 W5 := by rw [← hW5]; exact below_setRow ((Below.refl _ _).alloc (Nat.le_refl _) _) (Nat.le_refl _) _
           obtain ⟨x34, x35, x36, x37⟩ := ended_cells (by rw [← HK.out.2.2.2.1]; exact hr5) HK.out.2.2.2.2.1
           rw [HK.out.2.2.2.2.2.1] at x34
           rw [HK.out.2.2.2.2.2.2.1] at x35
           have hcv := conv_own (HK.out.2.2.2.2.2.2.2.2.1.below hB5)
           rw [HK.out.2.2.2.2.2.2.2.1] at hcv
           have hcv2 : (convert 35 9 ov).run Tryz.prog W5 = .ok (.string S) W5 := by rw [HRN.out.2.1]; exact hcv
           have hlt5 := lt_of_block hr5
           have hB05 : Below w.heap.size w W5 := HK.out.2.2.2.2.2.2.2.2.2.trans (hB5.mono HK.out.2.2.2.2.2.2.2.2.2.size)
           clear hW5 hr5 hcv hB5)
        | (go_at_call 9; refine Calls.mono (HS.out _ hB05) ?_
           rintro e w10 ⟨rfl, hB10⟩
           have hBw10 := hB05.trans (hB10.mono hB05.size)
           clear hB10))
      go_ret
      exact ⟨rfl, hBw10⟩
end Go.Proofs
