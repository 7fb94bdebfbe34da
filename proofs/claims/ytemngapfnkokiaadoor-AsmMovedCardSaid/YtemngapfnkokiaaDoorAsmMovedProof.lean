/- asm.Assemble: what is moved as a whole is the same, but for its labels' addresses (plain). -/
import Derived.Test.YtemngapfnkokiaaDoorAsmW
import Derived.Test.YtemngapfnkokiaaDoorCase5K
import Derived.Test.YtemngapfnkokiaaDoorSmall5
import Derived.Test.YtemngapfnkokiaaDoorPb
import Derived.Test.YtemngapfnkokiaaDoorRows
import Derived.Test.YtemngapfnkokiaaDoorTie
import Derived.Test.YtemngapfnkokiaaDoorCards
import Derived.Test.YtemngapfnkokiaaDoorOpen
import Derived.ProofKit
import Derived.LaidMore
import Derived.OpenShut
import Derived.Stop.Joined
import Derived.SevenTiedAt
namespace Go.Pat
open Go Go.RowKit Go.Proofs
theorem mv_small {d v : Nat} (h : v + d < 18446744073709551616) : mv d v = v + d := by
  unfold mv wrN
  omega
theorem begM_moved (text data : List It) {at_ dat d : Nat} (h8 : d % 8 = 0) (hd : d ≤ 1073741824) (ha : at_ ≤ 1073741824) (hb : dat ≤ 1073741824) : begM text data (at_ + d) (dat + d) = begM text data at_ dat := by
  by_cases h1 : at_ % 4 ≠ 0 ∨ dat % 8 ≠ 0 ∨ 1099511627776 < at_ ∨ 1099511627776 < dat
  · have h2 : (at_ + d) % 4 ≠ 0 ∨ (dat + d) % 8 ≠ 0 ∨ 1099511627776 < at_ + d ∨ 1099511627776 < dat + d := by omega
    unfold begM
    rw [if_pos h1, if_pos h2]
  · have h2 : ¬ ((at_ + d) % 4 ≠ 0 ∨ (dat + d) % 8 ≠ 0 ∨ 1099511627776 < at_ + d ∨ 1099511627776 < dat + d) := by omega
    unfold begM
    rw [if_neg h1, if_neg h2]
theorem BegOk.asks {text data : List It} {at_ dat : Nat} {F : Names} (h : BegOk text data at_ dat F) (x : It) (hx : x ∈ text) (hk : x.k = 4 ∨ x.k = 5 ∨ x.k = 6 ∨ x.k = 7) : isLab text x.s.data.toList ∨ isLab data x.s.data.toList := by
  have h1 := h.ask x hx (named_ne (okI_jump (itemE_ok (h.text x hx)).1 hk))
  obtain ⟨y, hy, h2⟩ := (h.labs _).1 h1
  rcases List.mem_append.1 hy with h3 | h3
  · exact .inl ⟨y, h3, h2⟩
  · exact .inr ⟨y, h3, h2⟩
theorem nextM_moved {text data : List It} {at_ dat d : Nat} {F : Names} (h : BegOk text data at_ dat F) {S : List Int} (hl : S.length = text.length) : nextM text data (mv d at_) (mv d dat) F S = nextM text data at_ dat F S := by
  unfold nextM
  exact nexts_moved (layM_moved d hl at_ dat F F) (text.zip S) (fun x hx hk => h.asks x.1 (List.of_mem_zip hx).1 hk) at_
theorem rounds_moved {text data : List It} {at_ dat d : Nat} {F : Names} (h : BegOk text data at_ dat F) (j : Nat) : roundsM text data (mv d at_) (mv d dat) F j = roundsM text data at_ dat F j := by
  induction j with
  | zero => rfl
  | succ j ih => rw [roundsM, roundsM, ih, nextM_moved h (roundsM_length _ _ _ _ _ _)]
theorem moved_same (text data : List It) {at_ dat d : Nat} (h8 : d % 8 = 0) (hd : d ≤ 1073741824) (ha : at_ ≤ 1073741824) (hb : dat ≤ 1073741824) (S S2 : List Int) (h1 : Fin text data at_ dat S) (h2 : Fin text data (at_ + d) (dat + d) S2) :
    (∃ x, asmR text data at_ dat S = .inl x ∧ asmR text data (at_ + d) (dat + d) S2 = .inl x) ∨
    (∃ T D L, asmR text data at_ dat S = .inr (T, D, L) ∧ asmR text data (at_ + d) (dat + d) S2 = .inr (T, D, L.map fun y => (y.1, mv d y.2))) := by
  have hm := begM_moved text data h8 hd ha hb
  cases hbm : begM text data at_ dat with
  | inl x =>
    rw [hbm] at hm
    exact .inl ⟨x, by simp only [asmR, hbm], by simp only [asmR, hm]⟩
  | inr F =>
    rw [hbm] at hm
    have hok := begM_ok hbm
    obtain ⟨⟨j, hj⟩, hst⟩ := h1 F hbm
    have hl : S.length = text.length := by rw [hj]; exact roundsM_length _ _ _ _ _ _
    have e1 : at_ + d = mv d at_ := (mv_small (by omega)).symm
    have e2 : dat + d = mv d dat := (mv_small (by omega)).symm
    have hf2 := h2 F hm
    have hf1 : Final text data (at_ + d) (dat + d) F S := by
      rw [e1, e2]
      exact ⟨⟨j, by rw [rounds_moved hok]; exact hj⟩, by rw [nextM_moved hok hl]; exact hst⟩
    obtain rfl := hf1.one hf2
    have hlm := layM_moved (data := data) d hl at_ dat F F
    have hby : bytM (layM text data S (at_ + d) (dat + d) F) 0 (at_ + d) (text.zip S) [] = bytM (layM text data S at_ dat F) 0 at_ (text.zip S) [] := by
      rw [e1, e2]
      exact bytM_moved hlm (text.zip S) (fun x hx hk => hok.asks x.1 (List.of_mem_zip hx).1 hk) 0 at_ []
    have hlb : labsM (layM text data S (at_ + d) (dat + d) F) (text ++ data) = (labsM (layM text data S at_ dat F) (text ++ data)).map fun y => (y.1, mv d y.2) := by
      rw [e1, e2]
      refine labsM_moved (text ++ data) hlm fun x hx hk => ?_
      rcases List.mem_append.1 hx with h3 | h3
      · exact .inl ⟨x, h3, hk, rfl⟩
      · exact .inr ⟨x, h3, hk, rfl⟩
    cases hb2 : bytM (layM text data S at_ dat F) 0 at_ (text.zip S) [] with
    | inl n =>
      rw [hb2] at hby
      exact .inl ⟨(52, n), by simp only [asmR, hbm, hb2], by simp only [asmR, hm, hby]⟩
    | inr l =>
      rw [hb2] at hby
      exact .inr ⟨l, dataM data, labsM (layM text data S at_ dat F) (text ++ data), by simp only [asmR, hbm, hb2], by simp only [asmR, hm, hby, hlb]⟩
end Go.Pat

/- patinalaw05.AsmMoved answers true: the whole walk. -/
namespace Go.Proofs
open Go Go.RowKit Go.Pat
theorem owns_len {w : World} {base n size : Nat} {e : TypeId} {v : Value} {xs : List Value} (h : w.ownsRow base e size v n xs) : n ≤ maxLen := by
  rcases h.2 with ⟨_, h0⟩ | ⟨g, cap, cur, _, _, _, h1, h2, _⟩
  · rw [h0]; exact Nat.zero_le _
  · exact Nat.le_trans h1 h2
section
variable (w : World) (TA : Option Addr) (tc : Nat) (text : List It) (DA : Option Addr) (dc : Nat) (data : List It) (at_ dat : Nat)
/-- what Assemble answers, in one form. -/
def AsmRes (e : Ending) (w' : World) : Prop :=
  Below w.heap.size w w' ∧ ∃ (S : List Int) (e0 : Int) (i0 : Nat) (vt vd vl : Value) (T D : List UInt8) (L : List Lab), Fin text data at_ dat S ∧ e = .returned (.tuple #[.agg #[vt, vd, vl], .int .i64 e0, .int .i64 (i0 : Int)]) ∧
    OwnB w' w.heap.size vt T ∧ OwnB w' w.heap.size vd D ∧ OwnL w' w.heap.size vl L ∧
    ((e0 ≠ 0 ∧ asmR text data at_ dat S = .inl (e0, i0) ∧ T = [] ∧ D = [] ∧ L = []) ∨ (e0 = 0 ∧ i0 = 0 ∧ asmR text data at_ dat S = .inr (T, D, L)))
theorem asmR_err {S : List Int} {x : Int × Nat} (h : asmR text data at_ dat S = .inl x) : x.1 ≠ 0 := by
  unfold asmR at h
  cases hb : begM text data at_ dat with
  | inl y =>
    rw [hb] at h
    obtain rfl := Sum.inl.inj h
    exact begM_err hb
  | inr F =>
    rw [hb] at h
    simp only at h
    cases h2 : bytM (layM text data S at_ dat F) 0 at_ (text.zip S) [] with
    | inl n =>
      rw [h2] at h
      obtain rfl := Sum.inl.inj h
      exact (by decide : (52 : Int) ≠ 0)
    | inr l =>
      rw [h2] at h
      cases h
theorem asmRes_of {e : Ending} {w' : World} (h : AsmTo w text data at_ dat e w') : AsmRes w text data at_ dat e w' := by
  obtain ⟨hB, S, hS, hm⟩ := h
  refine ⟨hB, ?_⟩
  cases hr : asmR text data at_ dat S with
  | inl x =>
    rw [hr] at hm
    exact ⟨S, x.1, x.2, _, _, _, [], [], [], hS, hm, OwnB.nil _ _, OwnB.nil _ _, OwnL.nil _ _, .inl ⟨asmR_err text data at_ dat hr, hr, rfl, rfl, rfl⟩⟩
  | inr y =>
    rw [hr] at hm
    obtain ⟨vt, vd, vl, he, h1, h2, h3⟩ := hm
    exact ⟨S, 0, 0, vt, vd, vl, _, _, _, hS, he, h1, h2, h3, .inr ⟨rfl, rfl, hr⟩⟩
end
theorem res_moved {text data : List It} {at_ dat d : Nat} (h8 : d % 8 = 0) (hd : d ≤ 1073741824) (ha : at_ ≤ 1073741824) (hb : dat ≤ 1073741824) {S S2 : List Int} (h1 : Fin text data at_ dat S) (h2 : Fin text data (at_ + d) (dat + d) S2)
    {e0 e1 : Int} {i0 i1 : Nat} {T D T2 D2 : List UInt8} {L L2 : List Lab}
    (ha1 : (e0 ≠ 0 ∧ asmR text data at_ dat S = .inl (e0, i0) ∧ T = [] ∧ D = [] ∧ L = []) ∨ (e0 = 0 ∧ i0 = 0 ∧ asmR text data at_ dat S = .inr (T, D, L)))
    (ha2 : (e1 ≠ 0 ∧ asmR text data (at_ + d) (dat + d) S2 = .inl (e1, i1) ∧ T2 = [] ∧ D2 = [] ∧ L2 = []) ∨ (e1 = 0 ∧ i1 = 0 ∧ asmR text data (at_ + d) (dat + d) S2 = .inr (T2, D2, L2))) :
    e1 = e0 ∧ i1 = i0 ∧ T2 = T ∧ D2 = D ∧ L2 = L.map fun y => (y.1, mv d y.2) := by
  rcases moved_same text data h8 hd ha hb S S2 h1 h2 with ⟨x, r1, r2⟩ | ⟨T3, D3, L3, r1, r2⟩
  · rcases ha1 with ⟨_, q1, rfl, rfl, rfl⟩ | ⟨_, _, q1⟩
    · rcases ha2 with ⟨_, q2, rfl, rfl, rfl⟩ | ⟨_, _, q2⟩
      · rw [r1] at q1
        rw [r2] at q2
        have h3 := (Sum.inl.inj q2).symm.trans (Sum.inl.inj q1)
        exact ⟨congrArg Prod.fst h3, congrArg Prod.snd h3, rfl, rfl, rfl⟩
      · rw [r2] at q2; cases q2
    · rw [r1] at q1; cases q1
  · rcases ha1 with ⟨_, q1, _⟩ | ⟨rfl, rfl, q1⟩
    · rw [r1] at q1; cases q1
    · rcases ha2 with ⟨_, q2, _⟩ | ⟨rfl, rfl, q2⟩
      · rw [r2] at q2; cases q2
      · rw [r1] at q1
        rw [r2] at q2
        have h3 := Sum.inr.inj q1
        have h4 := Sum.inr.inj q2
        simp only [Prod.mk.injEq] at h3 h4
        obtain ⟨rfl, rfl, rfl⟩ := h3
        obtain ⟨rfl, rfl, rfl⟩ := h4
        exact ⟨rfl, rfl, rfl, rfl, rfl⟩
section
variable (w : World) (TA : Option Addr) (tc : Nat) (text : List It) (DA : Option Addr) (dc : Nat) (data : List It) (at_ dat d : Nat)
set_option maxRecDepth 20000 in
set_option maxHeartbeats 4000000 in
theorem amoved_out (h : d % 8 ≠ 0 ∨ 1073741824 < d ∨ 1073741824 < at_ ∨ 1073741824 < dat) (htz : TzTab w) (hrv : RvRows w) :
    Calls Tryd.prog 4 #[.agg #[.slice TA text.length tc, .slice DA data.length dc, .int .u64 (at_ : Int), .int .u64 (dat : Int)], .int .u64 (d : Int)] w (TrueTo w) := by
  have HS := Lib.hid (fun W (hW : Below w.heap.size w W) => small5_any W (hrv.below hW) (htz.below hW))
  clear htz hrv
  by_cases h1 : d % 8 = 0
  · have t1 : ((d : Int) % 8 != 0) = false := by simp; omega
    by_cases h2 : 1073741824 < d
    · have t2 : decide ((1073741824 : Int) < (d : Int)) = true := by simp; omega
      clear h h1 h2
      go_enter Tryd.func4, Tryd.ntmps4
      go_wp2_with (go_at_call 13; (with_reducible refine (HS.out _ (form1 w _)).mono ?_); rintro e w' ⟨rfl, hB⟩)
      go_ret
      exact ⟨rfl, (form1 w _).trans (hB.mono (form1 w _).size)⟩
    · have t2 : decide ((1073741824 : Int) < (d : Int)) = false := by simp; omega
      by_cases h3 : 1073741824 < at_
      · have t3 : decide ((1073741824 : Int) < (at_ : Int)) = true := by simp; omega
        clear h h1 h2 h3
        go_enter Tryd.func4, Tryd.ntmps4
        go_wp2_with (go_at_call 13; (with_reducible refine (HS.out _ (form1 w _)).mono ?_); rintro e w' ⟨rfl, hB⟩)
        go_ret
        exact ⟨rfl, (form1 w _).trans (hB.mono (form1 w _).size)⟩
      · have t3 : decide ((1073741824 : Int) < (at_ : Int)) = false := by simp; omega
        have t4 : decide ((1073741824 : Int) < (dat : Int)) = true := by simp; omega
        clear h h1 h2 h3
        go_enter Tryd.func4, Tryd.ntmps4
        go_wp2_with (go_at_call 13; (with_reducible refine (HS.out _ (form1 w _)).mono ?_); rintro e w' ⟨rfl, hB⟩)
        go_ret
        exact ⟨rfl, (form1 w _).trans (hB.mono (form1 w _).size)⟩
  · have t1 : ((d : Int) % 8 != 0) = true := by simp; omega
    clear h h1
    go_enter Tryd.func4, Tryd.ntmps4
    go_wp2_with (go_at_call 13; (with_reducible refine (HS.out _ (form1 w _)).mono ?_); rintro e w' ⟨rfl, hB⟩)
    go_ret
    exact ⟨rfl, (form1 w _).trans (hB.mono (form1 w _).size)⟩
set_option maxRecDepth 20000 in
set_option maxHeartbeats 8000000 in
theorem amoved_main (h8 : d % 8 = 0) (hd : d ≤ 1073741824) (ha : at_ ≤ 1073741824) (hb : dat ≤ 1073741824) (hT : Cs w.heap.size w TA (tcells text)) (hD : Cs w.heap.size w DA (tcells data)) (hns : ∀ x ∈ text ++ data, x.s.size ≤ maxLen) (hni : ∀ x ∈ text ++ data, -9223372036854775808 ≤ x.n ∧ x.n < 9223372036854775808)
    (htz : TzTab w) (hrv : RvRows w) (htl : text.length ≤ maxLen) (hdl : data.length ≤ maxLen) :
    Calls Tryd.prog 4 #[.agg #[.slice TA text.length tc, .slice DA data.length dc, .int .u64 (at_ : Int), .int .u64 (dat : Int)], .int .u64 (d : Int)] w (TrueTo w) := by
  have HS := Lib.hid (fun W (hW : Below w.heap.size w W) => small5_any W (hrv.below hW) (htz.below hW))
  have HW := Lib.hid (fun W (hW : Below w.heap.size w W) => wide5_any W TA tc text DA dc data (at_ : Int) (dat : Int) ((hT.below hW).more hW.size) ((hD.below hW).more hW.size) htl hdl)
  have HA := Lib.hid (fun W (hW : Below w.heap.size w W) => (aAsm_any W TA tc text DA dc data at_ dat ((hT.below hW).more hW.size) ((hD.below hW).more hW.size) hns hni (htz.below hW) (hrv.below hW) htl hdl (by omega) (by omega)).mono fun e w' h => asmRes_of W text data at_ dat h)
  have HA2 := Lib.hid (fun W (hW : Below w.heap.size w W) => (show Calls Tryd.prog 17 #[.slice TA text.length tc, .slice DA data.length dc, .int .u64 ((at_ : Int) + (d : Int)), .int .u64 ((dat : Int) + (d : Int))] W (AsmRes W text data (at_ + d) (dat + d)) from by
    have h0 := aAsm_any W TA tc text DA dc data (at_ + d) (dat + d) ((hT.below hW).more hW.size) ((hD.below hW).more hW.size) hns hni (htz.below hW) (hrv.below hW) htl hdl (by omega) (by omega)
    rw [Int.natCast_add, Int.natCast_add] at h0
    exact h0.mono fun e w' h => asmRes_of W text data (at_ + d) (dat + d) h))
  have HH := Lib.hid (And.intro h8 (And.intro hd (And.intro ha hb)))
  have t1 : ((d : Int) % 8 != 0) = false := by simp; omega
  have t2 : decide ((1073741824 : Int) < (d : Int)) = false := by simp; omega
  have t3 : decide ((1073741824 : Int) < (at_ : Int)) = false := by simp; omega
  have t4 : decide ((1073741824 : Int) < (dat : Int)) = false := by simp; omega
  have hc1 := heap_alloc_new w (.cells #[.slice TA text.length tc, .slice DA data.length dc, .int .u64 (at_ : Int), .int .u64 (dat : Int)] 40)
  have HC1 := Lib.hid hc1
  clear hT hD hns hni htz hrv htl hdl h8 hc1
  go_enter Tryd.func4, Tryd.ntmps4
  go_wp2_with (go_at_call 16
               with_reducible refine (HW.out _ (form1 w _)).mono ?_
               rintro e w2 ⟨b, rfl, hB2⟩
               have hc2 := (hB2.block w.heap.size (by rw [World.size_alloc]; omega)).trans HC1.out
               have g0 := (obj_cell hc2 0).trans rfl
               have g1 := (obj_cell hc2 1).trans rfl
               have g2 := (obj_cell hc2 2).trans rfl
               have g3 := (obj_cell hc2 3).trans rfl
               have HB := Lib.hid (And.intro ((form1 w _).trans (hB2.mono (form1 w _).size)) hc2)
               have hl2 := lt_of_block hc2
               clear hB2 hc2)
  · with_reducible refine Calls.mono (HS.out _ HB.out.1) ?_
    rintro e w' ⟨rfl, hB⟩
    go_wp2_with fail
    go_ret
    exact ⟨rfl, HB.out.1.trans (hB.mono HB.out.1.size)⟩
  · with_reducible refine Calls.mono (HA.out _ HB.out.1) ?_
    rintro e w3 ⟨hB3, S, e0, i0, vt, vd, vl, T, D, L, hS, rfl, o1, o2, o3, ha1⟩
    obtain ⟨At, ct, rfl, h1⟩ := o1.form
    obtain ⟨Ad, cd, rfl, h2⟩ := o2.form
    obtain ⟨Al, cl, rfl, h3⟩ := o3.form
    have hllen : L.length ≤ 9223372036854775807 := by
      have h0 := owns_len o3
      unfold maxLen at h0
      omega
    have hc3 := (hB3.block w.heap.size hl2).trans HB.out.2
    have k0 := (obj_cell hc3 0).trans rfl
    have k1 := (obj_cell hc3 1).trans rfl
    have k2 := (obj_cell hc3 2).trans rfl
    have k3 := (obj_cell hc3 3).trans rfl
    have hl3 := lt_of_block hc3
    have H3 := Lib.hid (And.intro hS (And.intro ha1 (And.intro h1 (And.intro h2 (And.intro h3 (HB.out.1.trans (hB3.mono HB.out.1.size)))))))
    clear hB3 hS ha1 o1 o2 o3 h1 h2 h3 hc3 g0 g1 g2 g3
    have w1 : IntKind.u64.wrap ((at_ : Int) + (d : Int)) = (at_ : Int) + (d : Int) := by rw [IntKind.wrap_u64]; omega
    have w2' : IntKind.u64.wrap ((dat : Int) + (d : Int)) = (dat : Int) + (d : Int) := by rw [IntKind.wrap_u64]; omega
    go_wp2_with fail
    with_reducible refine Calls.mono (HA2.out _ (H3.out.2.2.2.2.2.alloc H3.out.2.2.2.2.2.size _)) ?_
    rintro e w5 ⟨hB5, S2, e1, i1, vt, vd, vl, T2, D2, L2, hS2, rfl, o1, o2, o3, ha2⟩
    obtain ⟨rfl, rfl, rfl, rfl, rfl⟩ := res_moved HH.out.1 HH.out.2.1 HH.out.2.2.1 HH.out.2.2.2 H3.out.1 hS2 H3.out.2.1 ha2
    obtain ⟨At2, ct2, rfl, h1⟩ := o1.form
    obtain ⟨Ad2, cd2, rfl, h2⟩ := o2.form
    obtain ⟨Al2, cl2, rfl, h3⟩ := o3.form
    rw [List.length_map] at *
    have hB35 : Below w3.heap.size w3 w5 := (form1 w3 _).trans (hB5.mono (form1 w3 _).size)
    have hcA := (hB5.block w3.heap.size (by rw [World.size_alloc]; omega)).trans (heap_alloc_new w3 (.cells #[.slice At T2.length ct, .slice Ad D2.length cd, .slice Al L.length cl] 45))
    obtain ⟨W6, hW6⟩ : ∃ W6, W6 = w5.alloc (.cells #[.slice At2 T2.length ct2, .slice Ad2 D2.length cd2, .slice Al2 L.length cl2] 45) := ⟨_, rfl⟩
    have hB56 : Below w5.heap.size w5 W6 := by rw [hW6]; exact form1 w5 _
    have hcB6 : W6.heap[w5.heap.size]? = some (.cells #[.slice At2 T2.length ct2, .slice Ad2 D2.length cd2, .slice Al2 L.length cl2] 45 (0, 0)) := by rw [hW6]; exact heap_alloc_new w5 _
    have hB36 : Below w3.heap.size w3 W6 := hB35.trans (hB56.mono hB35.size)
    have hcA6 := (hB56.block w3.heap.size (lt_of_block hcA)).trans hcA
    have PB1 := pBytes_any W6 At At2 T2.length T2.length ct ct2 _ _ T2 T2 (H3.out.2.2.1.below hB36) (h1.below hB56) rfl rfl
    have PB2 := pBytes_any W6 Ad Ad2 D2.length D2.length cd cd2 _ _ D2 D2 (H3.out.2.2.2.1.below hB36) (h2.below hB56) rfl rfl
    simp only [beq_self_eq_true] at PB1 PB2
    have hLa := (H3.out.2.2.2.2.1.below hB36).more hB36.size
    have hLb := (h3.below hB56).more hB56.size
    have HW6 := Lib.hid hW6
    have HP := Lib.hid (And.intro PB1 PB2)
    have a0 := (obj_cell hcA6 0).trans rfl
    have a1 := (obj_cell hcA6 1).trans rfl
    have a2 := (obj_cell hcA6 2).trans rfl
    have b0 := (obj_cell hcB6 0).trans rfl
    have b1 := (obj_cell hcB6 1).trans rfl
    have b2 := (obj_cell hcB6 2).trans rfl
    have la := lt_of_block hcA6
    have lb := lt_of_block hcB6
    have HL := Lib.hid (And.intro hLa (And.intro hLb (H3.out.2.2.2.2.2.trans (hB36.mono H3.out.2.2.2.2.2.size))))
    have HCA := Lib.hid (And.intro hcA6 hcB6)
    clear hB35 hcA hW6 hB56 hcB6 hB36 hcA6 PB1 PB2 hLa hLb h1 h2 h3 o1 o2 o3 hB5 hS2 ha2
    go_upto_region 5 with fail
    rw [← HW6.out]
    go_wp2_with (first | (go_at_call 18; (with_reducible refine HP.out.1.mono ?_); rintro e w' ⟨rfl, rfl⟩) | (go_at_call 18; (with_reducible refine HP.out.2.mono ?_); rintro e w' ⟨rfl, rfl⟩))
    go_loopw [100] (fun i wr => ∃ (k : Nat), k ≤ L.length ∧ i = .int .i64 k ∧ Below W6.heap.size W6 wr) (fun i _ => L.length - (intOf i).toNat)
    case atStart => exact ⟨0, Nat.zero_le _, rfl, Below.refl _ _⟩
    case round =>
      obtain ⟨k, hk, rfl, hB⟩ := hrel
      by_cases hlt : k < L.length
      · have t1 : decide ((k : Int) < (L.length : Int)) = true := decide_eq_true (by omega)
        have hku : (k : Int) < (L.length : Int) := by omega
        obtain ⟨p1, o1, rfl, hp1, x1, x2⟩ := lab_at (HL.out.1.below hB) k hlt
        obtain ⟨p2, o2, rfl, hp2, y1, y2⟩ := lab_at (HL.out.2.1.below hB) k (by rw [List.length_map]; exact hlt)
        simp only [List.getElem_map] at y1 y2
        have ca := (hB.block w3.heap.size la).trans HCA.out.1
        have cb := (hB.block w5.heap.size lb).trans HCA.out.2
        have a2' := (obj_cell ca 2).trans rfl
        have b2' := (obj_cell cb 2).trans rfl
        have hs := hB.size
        have hmv : IntKind.u64.wrap ((L[k].2 : Int) + (d : Int)) = (mv d L[k].2 : Int) := (wrN_is _).symm
        generalize mv d L[k].2 = q2 at *
        generalize L[k].2 = q at *
        generalize L[k].1 = nm at *
        have t5 : (nm.toList != nm.toList) = false := by simp
        have t6 : ((q2 : Int) != (q2 : Int)) = false := by simp
        have HB6 := Lib.hid hB
        clear ca cb hB
        go_wp2_with fail
        go_quiet (fail)
        go_wp2_with fail
        go_roundw
        case rel => exact ⟨k + 1, by omega, by go_num, bdrewN HB6.out _⟩
        case measure => simp [intOf]; omega
      · have t1 : decide ((k : Int) < (L.length : Int)) = false := decide_eq_false (by omega)
        obtain rfl : k = L.length := by omega
        have hBw := HL.out.2.2.trans (hB.mono (Nat.le_trans HL.out.2.2.size (Nat.le_refl _)))
        have HBw := Lib.hid hBw
        clear hBw
        go_wp2_with fail
        with_reducible refine Calls.mono (HS.out _ HBw.out) ?_
        rintro e w' ⟨rfl, hB9⟩
        go_wp2_with fail
        go_ret
        exact ⟨rfl, HBw.out.trans (hB9.mono HBw.out.size)⟩
theorem AsmMoved_any (hT : Cs w.heap.size w TA (tcells text)) (hD : Cs w.heap.size w DA (tcells data)) (hns : ∀ x ∈ text ++ data, x.s.size ≤ maxLen) (hni : ∀ x ∈ text ++ data, -9223372036854775808 ≤ x.n ∧ x.n < 9223372036854775808)
    (htz : TzTab w) (hrv : RvRows w) (htl : text.length ≤ maxLen) (hdl : data.length ≤ maxLen) :
    Calls Tryd.prog 4 #[.agg #[.slice TA text.length tc, .slice DA data.length dc, .int .u64 (at_ : Int), .int .u64 (dat : Int)], .int .u64 (d : Int)] w (TrueTo w) := by
  by_cases h : d % 8 ≠ 0 ∨ 1073741824 < d ∨ 1073741824 < at_ ∨ 1073741824 < dat
  · exact amoved_out w TA tc text DA dc data at_ dat d h htz hrv
  · exact amoved_main w TA tc text DA dc data at_ dat d (by omega) (by omega) (by omega) (by omega) hT hD hns hni htz hrv htl hdl
end
end Go.Proofs

/- patinalaw05.AsmMoved answers true for every input, and leaves its arguments as they were; the card ties the tables of patina/rv and of math/bits to the program's text. No condition but the tied one. -/
namespace Go.Proofs.YtemngapfnkokiaaDoor
open Go Go.ChangeShapes Go.WideShapes Go.ChangeAt Go.RowKit Go.Pat Go.Joins Go.WideMaps Go.WideElems

theorem nat_u64 {n : Int} (h : (Lit.int .u64 n).wf = true) : ∃ k : Nat, n = (k : Int) ∧ k < 18446744073709551616 := by
  have hz : 0 ≤ n ∧ n ≤ 18446744073709551615 := by simp [Lit.wf] at h; exact h
  exact ⟨n.toNat, by omega, by omega⟩
theorem own : ownKnob Tryd.prog.godebug = none := by kernel_rfl
theorem laidOut : laidOutB Tryd.prog = true := by kernel_rfl
theorem door_met (os : Os) (args : Array Value) : laidMetH Tryd.prog Rows.asmMovedRow.laid ((World.doorLaid Tryd.prog 84 os).forCall (fun _ _ => 0) ⟨#[], args, []⟩).memory :=
  laidMetH_of_parts3 (fuel := 8) (laidMet_of_run' 8 (by kernel_rfl) (by kernel_rfl)) (by kernel_rfl) (by kernel_rfl)

set_option maxRecDepth 100000 in
set_option maxHeartbeats 1000000 in
theorem asmMoved_lifted (os : Os) (started : os.Started) (H : Type) (enc : TypeId × Value → H) :
    ReturnsInHanded {} Tryd.checked os 4 .any (fun w args => (Rows.asmMovedSpec.pre enc Tryd.prog Tryd.f4 [] false w args ∧ laidMetH Tryd.prog Rows.asmMovedRow.laid w) ∧ sizedMet enc Tryd.prog Tryd.f4 (OpenSpec.ofChange Rows.asmMovedSpec) false w args)
      (Rows.asmMovedSpec.post enc Tryd.prog Tryd.f4 false true false false) := by
  refine returnsInHanded_of_change_and (C := Tryd.checked) (X := fun w _ => laidMetH Tryd.prog Rows.asmMovedRow.laid w) (fun _ _ _ hh h => h.of_heap hh) own started (by kernel_rfl) Tryd.func4
    (ChangeSpec.witness_shaped (enc := enc) (C := Tryd.checked) (os := os) (X := fun w _ => laidMetH Tryd.prog Rows.asmMovedRow.laid w) false (World.doorLaid Tryd.prog 84 os) #[.agg #[.slice none 0 0, .slice none 0 0, .int .u64 0, .int .u64 0], .int .u64 0] 8 rfl (World.shaped_of_RefB (by kernel_rfl) (by kernel_rfl)) (by kernel_rfl) (by kernel_rfl) (by kernel_rfl) (door_met os _)) ?_
  intro W base args ds gs before hval0 hW hcnd hsz0 hL _
  have hval : ∀ (j : Nat) t v, Tryd.f4.params[j]? = some t → args[j]? = some v → Value.okWide Tryd.prog W .any base t v := hval0
  have hW' := hW
  obtain ⟨p, q, hA0, hV, rfl, hfz, hnd⟩ := hW
  have hA : DataW.TrodAll enc Tryd.prog W 0 (fun _ => true) true Tryd.f4.params.toList args.toList ds p := hA0
  have hA1 := hA
  rw [Tryd.params4] at hA hval
  obtain ⟨v0, v1, d0, d1, p0, p1, rfl, rfl, rfl, h0, h1⟩ := trodAll_two hA
  obtain ⟨rfl, rfl⟩ := trodVars_none hV
  rw [List.append_nil] at hW'
  obtain ⟨z1, rfl, rfl, rfl, hw1⟩ := open_int Tryd.underlying30 (hval 1 30 v1 rfl rfl) h1
  obtain ⟨d, rfl, hd⟩ := nat_u64 hw1
  obtain ⟨cs, rfl, -⟩ := okWide_struct Tryd.underlying40 (hval 0 40 v0 rfl rfl)
  obtain ⟨fuel0, hf0⟩ := h0
  obtain ⟨TA, tc, text, DA, dc, data, at_, dat, e0, hT, hD, hy, htl, hdl, hat, hdat⟩ := open_case5 hf0
  have e1 : cs = #[.slice TA text.length tc, .slice DA data.length dc, .int .u64 (at_ : Int), .int .u64 (dat : Int)] := by
    have e2 : cs.toList = [.slice TA text.length tc, .slice DA data.length dc, .int .u64 (at_ : Int), .int .u64 (dat : Int)] := e0
    exact Array.toList_inj.1 (e2.trans rfl)
  subst e1
  obtain ⟨hTz, hRv⟩ := tabs_laid hL
  refine (AsmMoved_any W TA tc text DA dc data at_ dat d hT hD (fun y h => (hy y h).1) (fun y h => (hy y h).2) hTz hRv htl hdl).mono fun e W' ⟨he, hw⟩ => ?_
  subst he
  exact ⟨_, rfl, post_below hW' hA1 laidOut (by rw [Tryd.params4]; intro t ht; simp only [List.mem_cons, List.not_mem_nil, or_false] at ht; rcases ht with rfl | rfl <;> exact ⟨by kernel_rfl, of_decide_eq_true (by kernel_rfl)⟩) hw rfl rfl rfl (fun _ _ _ => trodAll_mk1 (shut_bool Tryd.underlying4 _))⟩

set_option maxRecDepth 100000 in
theorem asmMoved_said : Rows.AsmMovedSaid :=
  OpenClaim.holds_of_wide 4 Tryd.f4 rfl rfl rfl rfl rfl rfl rfl ⟨rfl, rfl, rfl, rfl, rfl⟩ rfl rfl rfl rfl rfl (by kernel_rfl) Tryd.func4 (by kernel_rfl)
    (of_decide_eq_true (by kernel_rfl)) (by unfold Func.isWrapper; first | (rw [if_pos (by decide +kernel)]; kernel_rfl) | (rw [if_neg (by decide +kernel)]; exact ⟨rfl, rfl⟩))
    (fun os started H enc _ => asmMoved_lifted os started H enc)

set_option maxRecDepth 100000 in
theorem asmMoved_holds : Rows.AsmMovedCardSaid :=
  Claim7.holds_tied_plain_at .later [] [.data, .data] true Rows.asmMovedCard.stood.harness false
    asmMoved_said (fun _ h => by cases h) (by kernel_rfl) (fun _ h => by cases h) asmMoved_row_tie rfl ⟨rfl, rfl⟩ (by kernel_rfl) rfl
    (fun f fn hf hfn => by
      obtain rfl : f = 4 := Option.some.inj ((show Tryd.prog.funcNamed "patina/patinalaw05.AsmMoved" = some 4 by kernel_rfl).symm.trans hf) |>.symm
      obtain rfl : fn = Tryd.f4 := (Option.some.inj (Tryd.func4.symm.trans hfn)).symm
      exact ⟨by kernel_rfl, fun j t ht => by
        rw [Tryd.params4] at ht
        have hm : t ∈ [40, 30] := by simpa using Array.mem_of_getElem? ht
        have hall : ([40, 30].all fun u => !Tryd.prog.wantsStandIn u) = true := by kernel_rfl
        exact (show Tryd.prog.wantsStandIn t = false by simpa using List.all_eq_true.1 hall t hm)⟩)
    (by kernel_rfl)
#print axioms asmMoved_holds
end Go.Proofs.YtemngapfnkokiaaDoor
