/- patinalaw10.RtStarts: the walk. -/
import Derived.Test.YtlhenglopnipaaaGreatDoorRtRS
namespace Go.Pat
open Go Go.RowKit Go.Proofs
/-- numbers are loaded. -/
def lisL : List Int → List It
  | [] => []
  | n :: l => [liIt 10 n] ++ lisL l
def lisC : List Int → List In
  | [] => []
  | n :: l => liL 10 n ++ lisC l
theorem lisL_len : ∀ (l : List Int), (lisL l).length = l.length
  | [] => rfl
  | n :: l => by rw [lisL, List.length_append, lisL_len l, List.length_singleton, List.length_cons]; omega
theorem lisC_len : ∀ (l : List Int), (lisC l).length ≤ 12 * l.length
  | [] => Nat.le_refl _
  | n :: l => by
    have h1 : (liL 10 n).length ≤ 12 := liM_len 6 10 n
    have h2 := lisC_len l
    rw [lisC, List.length_append, List.length_cons]
    omega
theorem lay_lis : ∀ (l : List Int) (a : Nat), a + 48 * l.length ≤ 1100000 → (∀ n ∈ l, i64B n) → Lay a (lisL l) (lisC l)
  | [], a, _, _ => Lay.nil a
  | n :: l, a, h2, hn => by
    have hl : (liL 10 n).length ≤ 12 := liM_len 6 10 n
    rw [List.length_cons] at h2
    exact (Lay.li a (by omega) 10 n (by decide) (hn n (by simp))).app (lay_lis l _ (by omega) fun x hx => hn x (by simp [hx]))
theorem lisL_app (a b : List Int) : lisL (a ++ b) = lisL a ++ lisL b := by
  induction a with
  | nil => rfl
  | cons x r ih => rw [List.cons_append, lisL, lisL, ih, List.append_assoc]
theorem lisL_take (l : List Int) (j : Nat) (hj : j < l.length) : lisL (l.take (j + 1)) = lisL (l.take j) ++ [liIt 10 l[j]] := by
  rw [List.take_add_one, List.getElem?_eq_getElem hj, lisL_app]
  rfl
end Go.Pat
namespace Go.Proofs
open Go Go.RowKit Go.Pat
set_option maxRecDepth 20000 in
set_option maxHeartbeats 32000000 in
theorem RtStarts_any (w : World) (LA : Option Addr) (lc : Nat) (l : List Int) (hl : Cs w.heap.size w LA (zcells l)) (hn : ∀ n ∈ l, i64B n) (hll : l.length ≤ 9223372036854775807) (htz : TzTab w) (hrv : RvRows w) :
    Calls Tryz.prog 7 #[.slice LA l.length lc] w fun e w' => e = .returned (.bool true) ∧ Below w.heap.size w w' := by
  have HS := Lib.hid (fun (w1 : World) (h : Below w.heap.size w w1) => speaks10_any w1 (htz.below h) (hrv.below h))
  have HL := Lib.hid (And.intro hl (And.intro hn (And.intro htz hrv)))
  clear hl hn htz hrv
  cases c50 : decide ((50 : Int) < (l.length : Int))
  rotate_left
  · go_enter Tryz.func7, Tryz.ntmps7
    go_wp2_with fail
    refine Calls.mono (HS.out w (Below.refl _ _)) ?_
    rintro e w1 ⟨rfl, hB1⟩
    go_wp2
    go_ret
    exact ⟨rfl, hB1⟩
  have h50 : l.length ≤ 50 := by have := of_decide_eq_false c50; omega
  have H50 := Lib.hid h50
  clear h50
  go_enter Tryz.func7, Tryz.ntmps7
  go_wp2_with fail
  go_loopw [3, 4] (fun v i wr => ∃ j : Nat, j ≤ l.length ∧ i = .int .i64 j ∧ OwnT wr w.heap.size v (lisL (l.take j)) ∧ Below w.heap.size w wr) (fun _ i _ => l.length - (intOf i).toNat)
  case atStart => exact ⟨0, by omega, rfl, .nil _ _, Below.refl _ _⟩
  case round =>
    obtain ⟨j, hj, rfl, hO, hB⟩ := hrel
    by_cases hlt : j < l.length
    · have td : decide ((j : Int) < (l.length : Int)) = true := decide_eq_true (by omega)
      have hju : (j : Int) < (l.length : Int) := by omega
      have hj50 : j < 50 := by have := H50.out; omega
      obtain ⟨b, o, rfl, hb, y0⟩ := z_at (HL.out.1.below hB) j hlt
      have hbl : b < wr.heap.size := Nat.lt_of_lt_of_le hb hB.size
      obtain ⟨x, hx⟩ : ∃ x, x = l[j] := ⟨_, rfl⟩
      rw [← hx] at y0
      obtain ⟨A1, c1, rfl, -⟩ := hO.form
      have hO2 := hO
      rw [show (lisL (l.take j)).length = j by rw [lisL_len, List.length_take]; omega] at hO2 ⊢
      have HX := Lib.hid (And.intro hx (And.intro hO hB))
      have HO2 := Lib.hid hO2
      clear hO hO2 hx
      go_wp2_with fail
      refine Calls.mono (l10li_e 10 x wr) ?_
      rintro e w1 ⟨rfl, hB1⟩
      have hB1a : Below wr.heap.size wr (w1.alloc (.cells #[.int .i64 3, .string no, .int .i64 0, .int .i64 10, .int .i64 0, .int .i64 0, .int .i64 x] 28)) := hB1.alloc hB1.size _
      have ho1 := (HX.out.2.1.below hB1a)
      unfold OwnT at ho1
      rw [show (lisL (l.take j)).length = j by rw [lisL_len, List.length_take]; omega] at ho1
      have hr1 := it_lit [liIt 10 x] w1 28
      have hs1 : w.heap.size ≤ w1.heap.size := Nat.le_trans HX.out.2.2.size hB1.size
      have hs2 : w.heap.size ≤ (w1.alloc (.cells #[.int .i64 3, .string no, .int .i64 0, .int .i64 10, .int .i64 0, .int .i64 0, .int .i64 x] 28)).heap.size := by rw [World.size_alloc]; omega
      clear hB1
      go_wp2_with (at_builtin; refine wpList_app _ rfl _ _ 24 rfl Tryz_elTs w.heap.size _ j (tcells (lisL (l.take j))) (by exact rfl) ho1 _ (some ⟨w1.heap.size, 0, none⟩) 1 1 (tcells [liIt 10 x]) (by exact rfl) rfl hr1 (tcells_one _) (by simp only [maxLen]; omega) (by omega) hs2 ?_
                   intro v2 w2 h2 hg2 hn2 ha2
                   have hO3 : OwnT w2 w.heap.size v2 (lisL (l.take (j + 1))) := by
                     have e1 : (lisL (l.take (j + 1))).length = j + 1 := by rw [lisL_len, List.length_take]; omega
                     unfold OwnT
                     rw [e1, lisL_take l j hlt, ← HX.out.1, tcells_append]
                     exact h2
                   have hB2 : Below w.heap.size w w2 := (HX.out.2.2.trans (hB1a.mono HX.out.2.2.size)).grown hg2 hs2 (fun k hk => (ho1.lt k hk).1)
                   clear h2 hg2 hn2 ha2 ho1 hr1 hB1a)
      go_roundw
      case rel => exact ⟨j + 1, by omega, by go_num, hO3, hB2⟩
      case measure => simp [intOf]; omega
    · have td : decide ((j : Int) < (l.length : Int)) = false := decide_eq_false (by omega)
      obtain rfl : j = l.length := by omega
      rw [List.take_length] at hO
      obtain ⟨IA, ic, rfl, hI⟩ := hO.form
      have HO := Lib.hid hO
      obtain ⟨W0, hW0⟩ : ∃ W0, W0 = wr := ⟨_, rfl⟩
      subst hW0
      clear hO
      have HB := Lib.hid hB
      clear hB
      have HI := Lib.hid hI
      clear hI
      have hlay := lay_lis l 65856 (by have := H50.out; omega) HL.out.2.1
      have hll2 := lisL_len l
      have hlc2 := lisC_len l
      have hlen : (lisL l).length ≤ 100000 := by have := H50.out; omega
      have hC : (lisC l).length ≤ 230000 := by have := H50.out; omega
      clear hll2 hlc2
      go_wp2_with fail
      refine Calls.mono (rtText_any _) ?_
      rintro e w1 ⟨TA, tc, rfl, hT1, hB1⟩
      have ho1 : OwnT (W0.alloc (.cells #[] 28)) W0.heap.size (.slice (some ⟨W0.heap.size, 0, none⟩) 0 0) [] := World.ownsRow_lit W0 (tcells []).toArray 0 (Nat.le_refl _) (by decide) rfl
      have ho2 : OwnT w1 W0.heap.size (.slice (some ⟨W0.heap.size, 0, none⟩) 0 0) [] := ho1.below hB1
      have hT2 := hT1.form
      obtain ⟨TA2, tc2, ht2, hTc⟩ := hT2
      cases ht2
      have hs1 : W0.heap.size + 1 ≤ w1.heap.size := by have := hB1.size; rw [World.size_alloc] at this; exact this
      go_wp2_with (at_builtin; refine wpList_app _ rfl _ _ 24 rfl Tryz_elTs W0.heap.size _ 0 (tcells []) (by exact rfl) ho2 w1.heap.size TA _ tc (tcells rtText) (by exact rfl) (tcells_length rtText) hTc (tcells_one rtText) (by decide) (by decide) (by omega) ?_)
      intro v3 w3 h3 hg3 hn3 ha3
      have hB3 : Below W0.heap.size W0 w3 := ((Below.refl _ _).alloc (Nat.le_refl _) _ |>.trans (hB1.mono (by rw [World.size_alloc]; omega))).grown hg3 (by omega) (fun k hk => (ho2.lt k hk).1)
      have ho3 : OwnT w3 W0.heap.size v3 rtText := by unfold OwnT; exact h3
      obtain ⟨A3, c3, rfl, -⟩ := ho3.form
      clear h3 hg3 hn3 ha3 ho1 ho2 hT1 hTc hB1
      have HO3 := Lib.hid ho3
      clear ho3
      go_wp2_with fail
      refine Calls.mono (l10body_any w3 IA ic (lisL l) ((HI.out.below hB3).more hB3.size) (by omega)) ?_
      rintro e w4 ⟨A4, c4, rfl, hO4, hB4⟩
      have hB04 : Below W0.heap.size W0 w4 := hB3.trans (hB4.mono hB3.size)
      obtain ⟨A4', c4', e4, hT4⟩ := hO4.form
      cases e4
      have ho4 : OwnT w4 W0.heap.size (.slice A3 rtText.length c3) rtText := HO3.out.below hB4
      have hs4 := hB04.size
      have hbl : (bodyL (lisL l)).length = (lisL l).length + 6 := by simp [bodyL, mainHead, mainTail]
      have HBL := Lib.hid hbl
      clear hbl hO4
      go_wp2_with (at_builtin; refine wpList_app _ rfl _ _ 24 rfl Tryz_elTs W0.heap.size _ rtText.length (tcells rtText) (by exact rfl) ho4 w4.heap.size A4 _ c4 (tcells (bodyL (lisL l))) (by exact rfl) (tcells_length (bodyL (lisL l))) hT4 (tcells_one (bodyL (lisL l))) (by rw [HBL.out, rt_size1]; simp only [maxLen]; omega) (by rw [HBL.out, rt_size1]; omega) hs4 ?_)
      intro v5 w5 h5 hg5 hn5 ha5
      have hB5 : Below W0.heap.size W0 w5 := hB04.grown hg5 hs4 (fun k hk => (ho4.lt k hk).1)
      have ho5 : OwnT w5 W0.heap.size v5 (rtText ++ bodyL (lisL l)) := by unfold OwnT; rw [tcells_append, List.length_append]; exact h5
      obtain ⟨A5, c5, rfl, hT5⟩ := ho5.form
      clear h5 hg5 hn5 ha5 ho4 hT4 ho5
      have hBw5 : Below w.heap.size w w5 := HB.out.trans (hB5.mono HB.out.size)
      go_wp2_with fail
      refine Calls.mono (rtData_any w5) ?_
      rintro e w6 ⟨A6, c6, rfl, hO6, hB6⟩
      obtain ⟨A6', c6', e6, hT6⟩ := hO6.form
      cases e6
      have hBw6 : Below w.heap.size w w6 := hBw5.trans (hB6.mono hBw5.size)
      have hT5' := (hT5.below hB6).more hB6.size
      clear hO6 hT5
      go_wp2_with fail
      have HNM := Lib.hid (main_nums hlay.num)
      rw [← List.length_append]
      have htl : (rtText ++ bodyL (lisL l)).length ≤ 100100 := by rw [List.length_append, HBL.out, rt_size1]; omega
      refine Calls.mono (aAsm_any w6 A5 c5 (rtText ++ bodyL (lisL l)) A6 c6 rtData 65536 16777216 hT5' hT6 (fun x hx => Nat.le_trans (HNM.out x hx).2 (by decide)) (fun x hx => (HNM.out x hx).1) (HL.out.2.2.1.below hBw6) (HL.out.2.2.2.below hBw6) (Nat.le_trans htl (by decide)) (by decide) (by decide) (by decide)) ?_
      rintro e w7 ⟨hB7, S, hS, hm⟩
      obtain ⟨labs, ha, hfd, hix, hlab⟩ := lay_main hlay hlen hC S hS
      rw [ha] at hm
      simp only at hm
      obtain ⟨vt, vd, vl, rfl, hvt, hvd, hvl⟩ := hm
      obtain ⟨T, hT⟩ : ∃ T, T = insB (allC (lisC l)) := ⟨_, rfl⟩
      obtain ⟨D, hD⟩ : ∃ D, D = dataM rtData := ⟨_, rfl⟩
      rw [← hT] at hvt
      rw [← hD] at hvd
      obtain ⟨At, ct, rfl, hbt⟩ := hvt.form
      obtain ⟨Ad, cd, rfl, hbd⟩ := hvd.form
      obtain ⟨Al, cl, rfl, hbl⟩ := hvl.form
      have hTl : T.length = 4 * (83 + (lisC l).length) := by rw [hT, insB_length4, allC_len]
      have hDl : D.length = 131120 := by rw [hD, data_is, List.length_replicate]
      have hBw7 : Below w.heap.size w w7 := hBw6.trans (hB7.mono hBw6.size)
      have HF := Lib.hid (And.intro hfd (And.intro hix (And.intro hlab (And.intro hT (And.intro hD (And.intro hTl hDl))))))
      clear hfd hix hlab hT hD hTl hDl ha hS hvt hvd hvl hT5' hT6
      go_wp2_with fail
      have hB7a : Below w7.heap.size w7 (w7.alloc (.cells #[.slice At T.length ct, .slice Ad D.length cd, .slice Al labs.length cl] 53)) := (Below.refl _ _).alloc (Nat.le_refl _) _
      refine Calls.mono (rtImage_any _ At Ad Al ct cd cl T D labs ((hbt.below hB7a).mono hB7a.size) ((hbd.below hB7a).mono hB7a.size) ((hbl.below hB7a).more hB7a.size) (by have := HF.out.2.2.1; omega)) ?_
      rintro e w8 ⟨hB8, hi⟩
      have hBw8 : Below w.heap.size w w8 := hBw7.trans ((hB7a.trans (hB8.mono hB7a.size)).mono hBw7.size)
      rcases hi with ⟨hbad, -⟩ | ⟨-, vs, ss, rfl, hO8, hss⟩
      · exfalso
        obtain ⟨-, hix, -, -, -, hTl, hDl⟩ := HF.out
        unfold imgB at hbad
        rw [hix, hDl] at hbad
        simp only [Bool.or_eq_true, decide_eq_true_eq] at hbad
        omega
      rw [HF.out.1]
      have hss2 : ss.map Sg.d = img3 T := by rw [hss, HF.out.2.2.2.2.1, img3_is]
      have hsl : ss.length = 3 := by have := congrArg List.length hss2; rw [List.length_map] at this; exact this
      obtain ⟨As, cs, rfl, hS8⟩ := hO8.sgs (by omega)
      have hck : checkE 65536 (ss.map Sg.d) = 0 := by rw [hss2]; exact img3_ok _ (by rw [HF.out.2.2.2.2.2.1]; omega) (by rw [HF.out.2.2.2.2.2.1]; omega)
      have HS8 := Lib.hid (And.intro hck hS8)
      clear hss hss2 hsl hS8 hO8 hbt hbd hbl hB8 hB7a hck
      have hchk : ∀ W, Below w8.heap.size w8 W → Calls Tryz.prog 21 #[.agg #[.int .u64 65536, .slice As ss.length cs]] W fun e w' => e = .returned (.int .i64 0) ∧ Below W.heap.size W w' := fun W hW => by
        have := rCheck4_any W As cs 65536 ss ((HS8.out.2.below hW).mono hW.size) (by decide)
        rw [HS8.out.1] at this
        exact this
      have HV := Lib.hid hchk
      have HB8 := Lib.hid hBw8
      clear hchk
      go_wp2_with (first
        | (go_at_call 21; refine Calls.mono (HV.out _ ((Below.refl _ _).alloc (Nat.le_refl _) _)) ?_
           rintro e w9 ⟨rfl, hB9⟩
           have hBw9 : Below w.heap.size w w9 := HB8.out.trans ((((Below.refl _ _).alloc (Nat.le_refl _) _).trans (hB9.mono (by rw [World.size_alloc]; omega))).mono HB8.out.size)
           clear hB9)
        | (go_at_call 9; refine Calls.mono (HS.out _ hBw9) ?_
           rintro e w10 ⟨rfl, hB10⟩
           have hBw10 := hBw9.trans (hB10.mono hBw9.size)
           clear hB10))
      go_ret
      exact ⟨rfl, hBw10⟩
end Go.Proofs
