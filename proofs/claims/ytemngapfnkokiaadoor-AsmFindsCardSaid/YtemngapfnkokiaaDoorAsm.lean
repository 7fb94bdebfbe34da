/- patina/asm.Assemble: bytes and labels of items. -/
import Derived.Test.YtemngapfnkokiaaDoorAsmW
import Derived.Test.YtemngapfnkokiaaDoorBytesA
import Derived.StillTailTactics
namespace Go.Proofs
open Go Go.RowKit Go.Pat
theorem own_set3 {W : World} {e : TypeId} {size base n b b2 : Nat} {v : Value} {xs : List Value} (h : W.ownsRow base e size v n xs) (hb : b < base) (h2 : b2 ≤ base) (u1 u2 u3 : Value) :
    (((W.setCell ⟨b, 0, none⟩ u1).setCell ⟨b, 1, none⟩ u2).setCell ⟨b, 2, none⟩ u3).ownsRow b2 e size v n xs :=
  owns_base (owns_keep h fun g hg => by
    have hne : g ≠ b := fun e2 => by have h1 := (owns_block h hg).1; omega
    rw [Below.heap_setCell _ _ _ _ hne, Below.heap_setCell _ _ _ _ hne, Below.heap_setCell _ _ _ _ hne]) h2
theorem lit_l (w : World) (s : ByteArray) (v : Nat) : Cs (w.alloc (.cells #[.string s, .int .u64 (v : Int)] 50)).heap.size (w.alloc (.cells #[.string s, .int .u64 (v : Int)] 50)) (some ⟨w.heap.size, 0, none⟩) (lcells [(s, v)]) := fun j hj => by
  refine ⟨w.heap.size, 0, rfl, by rw [World.size_alloc]; omega, ?_⟩
  have h2 : j < 2 := by simpa [lcells] using hj
  rw [Nat.zero_add, cell_of_row _ _ j _ _ (0, 0) (heap_alloc_new w _)]
  simp [lcells]
section
variable (w : World) (TA : Option Addr) (tc : Nat) (text : List It) (DA : Option Addr) (dc : Nat) (data : List It) (at_ dat : Nat)
def zC : Value := .agg #[.slice none 0 0, .slice none 0 0, .slice none 0 0]
def AsmTo (e : Ending) (w' : World) : Prop :=
  Below w.heap.size w w' ∧ ∃ S, Fin text data at_ dat S ∧ match asmR text data at_ dat S with
    | .inl x => e = .returned (.tuple #[.agg #[.slice none 0 0, .slice none 0 0, .slice none 0 0], .int .i64 x.1, .int .i64 (x.2 : Int)])
    | .inr y => ∃ vt vd vl, e = .returned (.tuple #[.agg #[vt, vd, vl], .int .i64 0, .int .i64 0]) ∧ OwnB w' w.heap.size vt y.1 ∧ OwnB w' w.heap.size vd y.2.1 ∧ OwnL w' w.heap.size vl y.2.2
theorem code_zero {w' : World} {b : Nat} (h : w'.heap[b]? = some (.cells #[.slice none 0 0, .slice none 0 0, .slice none 0 0] 45 (0, 0))) :
    (w'.cell? ⟨b, 0, none⟩ = some (.slice none 0 0) ∧ w'.cell? ⟨b, 1, none⟩ = some (.slice none 0 0) ∧ w'.cell? ⟨b, 2, none⟩ = some (.slice none 0 0)) ∧ w'.frozen? ⟨b, 0, none⟩ = false ∧ w'.frozen? ⟨b, 1, none⟩ = false ∧ w'.frozen? ⟨b, 2, none⟩ = false :=
  ⟨⟨(obj_cell h 0).trans rfl, (obj_cell h 1).trans rfl, (obj_cell h 2).trans rfl⟩, obj_frozen h 0, obj_frozen h 1, obj_frozen h 2⟩
theorem below_set3 {B : Nat} {W W' : World} (h : Below B W W') {b : Nat} (hb : B ≤ b) (u v x : Value) : Below B W (((W'.setCell ⟨b, 0, none⟩ u).setCell ⟨b, 1, none⟩ v).setCell ⟨b, 2, none⟩ x) := ((h.setCell hb _).setCell hb _).setCell hb _
set_option maxRecDepth 20000 in
set_option maxHeartbeats 8000000 in
theorem aAsm_any (hT : Cs w.heap.size w TA (tcells text)) (hD : Cs w.heap.size w DA (tcells data)) (hns : ∀ x ∈ text ++ data, x.s.size ≤ maxLen) (hni : ∀ x ∈ text ++ data, -9223372036854775808 ≤ x.n ∧ x.n < 9223372036854775808) (htz : TzTab w) (hrv : RvRows w) (ht : text.length ≤ maxLen) (hd : data.length ≤ maxLen)
    (hat : at_ < 18446744073709551616) (hdat : dat < 18446744073709551616) :
    Calls Tryd.prog 17 #[.slice TA text.length tc, .slice DA data.length dc, .int .u64 (at_ : Int), .int .u64 (dat : Int)] w (AsmTo w text data at_ dat) := by
  have hB1 := form1 w (.cells #[.slice none 0 0, .slice none 0 0, .slice none 0 0] 45)
  have hb1 := heap_alloc_new w (.cells #[.slice none 0 0, .slice none 0 0, .slice none 0 0] 45)
  have HBg := Lib.hid (abegin_any (w.alloc (.cells #[.slice none 0 0, .slice none 0 0, .slice none 0 0] 45)) TA tc text DA dc data at_ dat ((hT.below hB1).more hB1.size) ((hD.below hB1).more hB1.size) hns (htz.below hB1) (hrv.below hB1) ht hd)
  have HNS := Lib.hid hns
  have HNI := Lib.hid hni
  have Hb1 := Lib.hid (And.intro hB1 hb1)
  clear hns hni hT hD htz hrv hB1 hb1
  cases hbm : begM text data at_ dat with
  | inl x =>
    obtain ⟨x1, x2⟩ := x
    have hx1 := begM_err hbm
    have te : (x1 != 0) = true := by simpa using hx1
    have HP := Lib.hid (show ∀ W, Below w.heap.size w W → AsmTo w text data at_ dat (.returned (.tuple #[.agg #[.slice none 0 0, .slice none 0 0, .slice none 0 0], .int .i64 x1, .int .i64 (x2 : Int)])) W from fun W hW =>
      ⟨hW, [], (fun F hF => (by rw [hbm] at hF; cases hF)), by simp only [asmR, hbm]⟩)
    generalize AsmTo w text data at_ dat = PP at *
    have HBM := Lib.hid hbm
    clear hbm hx1
    go_enter Tryd.func17, Tryd.ntmps17
    go_wp2_with fail
    refine Calls.mono HBg.out ?_
    rintro e w2 ⟨hB2, hm⟩
    simp only [HBM.out] at hm
    subst hm
    have hz := (hB2.block w.heap.size (by rw [World.size_alloc]; omega)).trans Hb1.out.2
    obtain ⟨⟨z0, z1, z2⟩, z3, z4, z5⟩ := code_zero hz
    have hzl := lt_of_block hz
    have HZ := Lib.hid (And.intro hz (Hb1.out.1.trans (hB2.mono Hb1.out.1.size)))
    clear hz hB2
    go_wp2_with fail
    exact code_ret _ _ w.heap.size _ _ _ HZ.out.1 _ _ _ _ _ _ rfl rfl rfl (HP.out _ (below_set3 HZ.out.2 (Nat.le_refl _) _ _ _))
  | inr F =>
    have hok := begM_ok hbm
    have HPe := Lib.hid (show ∀ (W : World) (S : List Int) (n : Nat), Final text data at_ dat F S → bytM (layM text data S at_ dat F) 0 at_ (text.zip S) [] = .inl n → Below w.heap.size w W → AsmTo w text data at_ dat (.returned (.tuple #[.agg #[.slice none 0 0, .slice none 0 0, .slice none 0 0], .int .i64 52, .int .i64 (n : Int)])) W from fun W S n h1 h2 h3 =>
      ⟨h3, S, (fun F2 hF => (by rw [hbm] at hF; cases hF; exact h1)), by simp only [asmR, hbm, h2]⟩)
    have HPo := Lib.hid (show ∀ (W : World) (S : List Int) (l : List UInt8) (vt vd vl : Value), Final text data at_ dat F S → bytM (layM text data S at_ dat F) 0 at_ (text.zip S) [] = .inr l → Below w.heap.size w W → OwnB W w.heap.size vt l → OwnB W w.heap.size vd (dataM data) → OwnL W w.heap.size vl (labsM (layM text data S at_ dat F) (text ++ data)) →
      AsmTo w text data at_ dat (.returned (.tuple #[.agg #[vt, vd, vl], .int .i64 0, .int .i64 0])) W from fun W S l vt vd vl h1 h2 h3 h4 h5 h6 =>
      ⟨h3, S, (fun F2 hF => (by rw [hbm] at hF; cases hF; exact h1)), by simp only [asmR, hbm, h2]; exact ⟨vt, vd, vl, rfl, h4, h5, h6⟩⟩)
    generalize AsmTo w text data at_ dat = PP at *
    have HBM := Lib.hid hbm
    have HOK := Lib.hid hok
    have hlim := hok.lim.2.2.2.2
    clear hbm hok
    go_enter Tryd.func17, Tryd.ntmps17
    go_wp2_with fail
    refine Calls.mono HBg.out ?_
    rintro e w2 ⟨hB2, hm⟩
    simp only [HBM.out] at hm
    obtain ⟨p, mb, nm, hnm, rfl, hPm⟩ := hm
    have hz := (hB2.block w.heap.size (by rw [World.size_alloc]; omega)).trans Hb1.out.2
    have hzl := lt_of_block hz
    have HZ := Lib.hid (And.intro hz (Hb1.out.1.trans (hB2.mono Hb1.out.1.size)))
    have HRx := Lib.hid (arelax_any _ w2 p TA tc text DA dc data at_ dat mb nm F hPm (by omega) HNS.out HNI.out hat hdat)
    have HPl := Lib.hid hPm.le
    clear hz hB2 hPm
    go_wp2_with fail
    with_reducible refine Calls.mono HRx.out ?_
    rintro e w3 ⟨rfl, hB3, nm2, sv, S, hFin, hP3⟩
    have hlS : S.length = text.length := by
      obtain ⟨⟨j, rfl⟩, _⟩ := hFin
      exact roundsM_length _ _ _ _ _ _
    generalize hF3 : layM text data S at_ dat F = F3 at *
    have hb1 : w.heap.size < (w.alloc (.cells #[.slice none 0 0, .slice none 0 0, .slice none 0 0] 45)).heap.size := by rw [World.size_alloc]; omega
    have hz3 := (hB3.block w.heap.size hb1).trans HZ.out.1
    have hB30 : Below w.heap.size w w3 := HZ.out.2.trans (hB3.mono (Nat.le_of_lt hb1))
    have hc3 := heap_alloc_new w3 (.cells #[.slice none 0 0, .slice none 0 0, .slice none 0 0] 45)
    have hP4 := hP3.keep (form1 w3 (.cells #[.slice none 0 0, .slice none 0 0, .slice none 0 0] 45))
    have HBy := abytes_any _ (w3.alloc (.cells #[.slice none 0 0, .slice none 0 0, .slice none 0 0] 45)) p TA tc text DA dc data at_ dat mb nm2 F3 sv S hP4 hlS (fun x hx => HNS.out x (List.mem_append_left _ hx)) (fun x hx => HNI.out x (List.mem_append_left _ hx)) (fun x hx hk => (okI_7 (itemE_ok (HOK.out.text x hx)).1 hk).1) (fun x hx hk => okI_9 (itemE_ok (HOK.out.text x hx)).1 hk) hat
    have hzl3 := lt_of_block hz3
    have HFN := Lib.hid hFin
    have HF3 := Lib.hid hF3
    have HlS := Lib.hid hlS
    have H3 := Lib.hid (And.intro hz3 (And.intro hB30 (And.intro hc3 hP3)))
    clear hB3 hz3 hB30 hc3 hP4 hFin hF3 hlS hP3
    cases hby : bytM F3 0 at_ (text.zip S) [] with
    | inl n =>
      rw [hby] at HBy
      have HBy2 := Lib.hid HBy
      have HBE := Lib.hid hby
      clear HBy hby
      go_wp2_with fail
      refine Calls.mono HBy2.out ?_
      rintro e w4 ⟨hB4, hm⟩
      simp only at hm
      subst hm
      have hc4 := (hB4.block w3.heap.size (by rw [World.size_alloc]; omega)).trans H3.out.2.2.1
      have hz4 := (hB4.block w.heap.size (by rw [World.size_alloc]; omega)).trans ((Below.heap_alloc w3 _ w.heap.size hzl3).trans H3.out.1)
      obtain ⟨⟨z0, z1, z2⟩, z3, z4, z5⟩ := code_zero hc4
      have hcl := lt_of_block hc4
      have hzl4 := lt_of_block hz4
      have hne : w.heap.size ≠ w3.heap.size := by omega
      have hz5 : ∀ v, (w4.setCell ⟨w3.heap.size, 0, none⟩ v).heap[w.heap.size]? = some (.cells #[.slice none 0 0, .slice none 0 0, .slice none 0 0] 45 (0, 0)) := fun v => (Below.heap_setCell _ _ _ _ hne).trans hz4
      obtain ⟨⟨y0, y1, y2⟩, y3, y4, y5⟩ := code_zero (hz5 (.slice none 0 0))
      have HZ5 := Lib.hid (And.intro hz5 ((H3.out.2.1.trans (((form1 w3 _).trans (hB4.mono (form1 w3 _).size)).mono (Nat.le_of_lt hzl3))).setCell (Nat.le_of_lt hzl3) (.slice none 0 0) : Below w.heap.size w (w4.setCell ⟨w3.heap.size, 0, none⟩ (.slice none 0 0))))
      clear hc4 hz4 hB4 hz5
      go_wp2_with fail
      exact code_ret _ _ w.heap.size _ _ _ (HZ5.out.1 _) _ _ _ _ _ _ rfl rfl rfl (HPe.out _ S n HFN.out (by rw [HF3.out]; exact HBE.out) (below_set3 HZ5.out.2 (Nat.le_refl _) _ _ _))
    | inr l =>
      rw [hby] at HBy
      have HBy2 := Lib.hid HBy
      have HBE := Lib.hid hby
      clear HBy hby
      go_wp2_with fail
      refine Calls.mono HBy2.out ?_
      rintro e w4 ⟨hB4, hm⟩
      simp only at hm
      obtain ⟨vt, rfl, hvt⟩ := hm
      have hc4 := (hB4.block w3.heap.size (by rw [World.size_alloc]; omega)).trans H3.out.2.2.1
      obtain ⟨⟨z0, z1, z2⟩, z3, z4, z5⟩ := code_zero hc4
      have hcl := lt_of_block hc4
      obtain ⟨At, ct, rfl, -⟩ := hvt.form
      obtain ⟨W5, hW5⟩ : ∃ W5, w4.setCell ⟨w3.heap.size, 0, none⟩ (.slice At l.length ct) = W5 := ⟨_, rfl⟩
      have hB35 : Below w3.heap.size w3 W5 := by rw [← hW5]; exact ((form1 w3 _).trans (hB4.mono (form1 w3 _).size)).setCell (Nat.le_refl _) _
      have hc5 : W5.heap[w3.heap.size]? = some (.cells #[.slice At l.length ct, .slice none 0 0, .slice none 0 0] 45 (0, 0)) := by
        rw [← hW5]
        exact obj_set hc4 0 _
      have hv5 : OwnB W5 (w3.alloc (.cells #[.slice none 0 0, .slice none 0 0, .slice none 0 0] 45)).heap.size (.slice At l.length ct) l := by
        rw [← hW5]
        exact hvt.keep fun g hg => Below.heap_setCell _ _ _ _ (fun e => by
          have h1 := (hvt.block hg).1
          have e2 : g = w3.heap.size := e
          rw [World.size_alloc] at h1
          omega)
      rw [World.size_alloc] at hv5
      have hcl5 := lt_of_block hc5
      have HV5 := Lib.hid hv5
      have HC5 := Lib.hid (And.intro hc5 hB35)
      clear hc4 hvt hv5 hB4 hc5 hB35
      have HL0 := Lib.hid (OwnB.nil W5 W5.heap.size)
      go_wp2_with fail
      go_loopw [49] (fun i wr => ∃ (k : Nat) (vd : Value), k ≤ data.length ∧ i = .int .i64 k ∧ (∀ g, g < W5.heap.size → g ≠ w3.heap.size → wr.heap[g]? = W5.heap[g]?) ∧ Below w3.heap.size w3 wr ∧ wr.heap[w3.heap.size]? = some (.cells #[.slice At l.length ct, vd, .slice none 0 0] 45 (0, 0)) ∧ OwnB wr W5.heap.size vd (dataM (data.take k)) ∧ W5.heap.size ≤ wr.heap.size ∧ (dataM (data.take k)).length ≤ k * 1048576) (fun i _ => data.length - (intOf i).toNat)
      case atStart => exact ⟨0, .slice none 0 0, Nat.zero_le _, rfl, fun _ _ _ => rfl, HC5.out.2, HC5.out.1, HL0.out, Nat.le_refl _, Nat.zero_le _⟩
      case round =>
        obtain ⟨k, vd, hk, rfl, hK, hB, hc, hown, hS, hln⟩ := hrel
        have hPr := H3.out.2.2.2.keep hB
        obtain ⟨Ad, cd, rfl, -⟩ := hown.form
        by_cases hlt : k < data.length
        · have t1 : decide ((k : Int) < (data.length : Int)) = true := decide_eq_true (by omega)
          have hku : (k : Int) < (data.length : Int) := by omega
          obtain ⟨b, o, e0, hb, x0, x1, x2, x3, x4, x5, x6⟩ := item_at hPr.pr.dt k hlt
          cases e0
          have hmem := List.getElem_mem hlt
          have h9 : (data[k]).k = 9 → 0 ≤ (data[k]).n ∧ (data[k]).n ≤ 1048576 := fun hk9 => okI_9 (itemE_ok (HOK.out.data data[k] hmem)).1 hk9
          have HW0 : ∀ W, Calls Tryd.prog 48 #[.agg (data[k]).cs] W (RawTo (rawM data[k]) W) := fun W => araw_any data[k] h9 W
          have hrl := raw_len data[k] h9
          have hTk := dataM_take data k hlt
          generalize rawM data[k] = rl at *
          have hcs : (data[k]).cs = #[.int .i64 (data[k]).k, .string (data[k]).s, .int .i64 (data[k]).op, .int .i64 (data[k]).rd, .int .i64 (data[k]).a, .int .i64 (data[k]).b, .int .i64 (data[k]).n] := rfl
          rw [hcs] at HW0
          clear hcs hmem h9
          generalize data[k].k = v0 at *
          generalize data[k].s = v1 at *
          generalize data[k].op = v2 at *
          generalize data[k].rd = v3 at *
          generalize data[k].a = v4 at *
          generalize data[k].b = v5 at *
          generalize data[k].n = v6 at *
          obtain ⟨W6, hW6⟩ : ∃ W6, W6 = wr.alloc (.cells #[.int .i64 v0, .string v1, .int .i64 v2, .int .i64 v3, .int .i64 v4, .int .i64 v5, .int .i64 v6] 61) := ⟨_, rfl⟩
          have hB6 : Below wr.heap.size wr W6 := by rw [hW6]; exact form1 wr _
          have hbl : W6.heap[wr.heap.size]? = some (.cells #[.int .i64 v0, .string v1, .int .i64 v2, .int .i64 v3, .int .i64 v4, .int .i64 v5, .int .i64 v6] 61 (0, 0)) := by rw [hW6]; exact heap_alloc_new wr _
          have HWW := Lib.hid hW6
          have g0 : W6.cell? ⟨wr.heap.size, 0, none⟩ = some (.int .i64 v0) := (obj_cell hbl 0).trans rfl
          have g1 : W6.cell? ⟨wr.heap.size, 1, none⟩ = some (.string v1) := (obj_cell hbl 1).trans rfl
          have g2 : W6.cell? ⟨wr.heap.size, 2, none⟩ = some (.int .i64 v2) := (obj_cell hbl 2).trans rfl
          have g3 : W6.cell? ⟨wr.heap.size, 3, none⟩ = some (.int .i64 v3) := (obj_cell hbl 3).trans rfl
          have g4 : W6.cell? ⟨wr.heap.size, 4, none⟩ = some (.int .i64 v4) := (obj_cell hbl 4).trans rfl
          have g5 : W6.cell? ⟨wr.heap.size, 5, none⟩ = some (.int .i64 v5) := (obj_cell hbl 5).trans rfl
          have g6 : W6.cell? ⟨wr.heap.size, 6, none⟩ = some (.int .i64 v6) := (obj_cell hbl 6).trans rfl
          have hc6 := (hB6.block w3.heap.size (by omega)).trans hc
          generalize hot : dataM (data.take k) = ot at *
          have p1 : W6.cell? ⟨w3.heap.size, 1, none⟩ = some (.slice Ad ot.length cd) := (obj_cell hc6 1).trans rfl
          have p1f : W6.frozen? ⟨w3.heap.size, 1, none⟩ = false := obj_frozen hc6 1
          have hcl6 := lt_of_block hc6
          have hs6 := hB6.size
          have HH := Lib.hid (And.intro hown (And.intro hB6 (And.intro hc6 (And.intro hK (And.intro hB (And.intro hc hTk))))))
          have HWr := Lib.hid HW0
          have hlo3 : ot.length + rl.length ≤ 140737488355328 := by
            have : k * 1048576 ≤ 1048576 * 1048576 := Nat.mul_le_mul_right _ (by omega)
            omega
          have hlo2 : (ot ++ rl).length ≤ (k + 1) * 1048576 := by
            rw [List.length_append, Nat.add_mul]
            omega
          have HHL := Lib.hid (And.intro hlo2 hlo3)
          clear hown hB6 hc6 hK hB hc HW0 hW6 hbl hPr hTk hot hlo2 hlo3
          go_upto_region 12 with fail
          rw [← HWW.out]
          go_region_law (first
            | (go_simp
               go_at_call 48
               with_reducible refine (HWr.out _).mono ?_
               rintro e w8 ⟨vr, rfl, hor, hB8⟩
               obtain ⟨A8, c8, rfl, hc8⟩ := hor.form
               have q1 : w8.cell? ⟨w3.heap.size, 1, none⟩ = some (.slice Ad ot.length cd) := (hB8.cell (p := ⟨w3.heap.size, 1, none⟩) hcl6).trans p1
               have hcl8 : w3.heap.size < w8.heap.size := Nat.lt_of_lt_of_le hcl6 hB8.size
               have q1f : w8.frozen? ⟨w3.heap.size, 1, none⟩ = false := (hB8.frozen (p := ⟨w3.heap.size, 1, none⟩) hcl6).trans p1f)
            | (refine step_appB rfl (.tmp 54) (.tmp 56) rfl W5.heap.size (.slice Ad ot.length cd) ot rfl ((HH.out.1.below HH.out.2.1).below (show Below W6.heap.size W6 w8 from ⟨hB8.os, hB8.tape, hB8.output, hB8.size, hB8.block⟩)) _ A8 rl.length c8 rl rfl rfl hc8 HHL.out.2 (by have h2 : W6.heap.size ≤ w8.heap.size := hB8.size; omega) ?_
               intro v9 w9 hown9 hB9 hk9
               obtain ⟨A9, c9, rfl, -⟩ := hown9.form
               have h68 : Below W6.heap.size W6 w8 := ⟨hB8.os, hB8.tape, hB8.output, hB8.size, hB8.block⟩
               have hr9 : Below W5.heap.size wr w9 := hB9 wr ((HH.out.2.1.trans (h68.mono hs6)).mono (by omega))
               have hc9 := (hr9.block w3.heap.size hcl5).trans HH.out.2.2.2.2.2.1
               have r1 := (obj_cell hc9 1).trans rfl
               have r1f := obj_frozen hc9 1
               have hcl9 := lt_of_block hc9
               have HR := Lib.hid (And.intro hown9 (And.intro hr9 hc9))
               clear hown9 hB9 hk9 hr9 hc9 h68))
          all_goals
            go_wp2_with fail
            go_roundw
            case rel =>
              refine ⟨k + 1, _, by omega, by go_num, fun g hg hne => ?_, ?_, obj_set HR.out.2.2 1 _, ?_, ?_, ?_⟩
              · rw [Below.heap_setCell _ _ _ _ hne, HR.out.2.1.block g hg]
                exact HH.out.2.2.2.1 g hg hne
              · exact (HH.out.2.2.2.2.1.trans (HR.out.2.1.mono (Nat.le_of_lt hcl5))).setCell (Nat.le_refl _) _
              · rw [HH.out.2.2.2.2.2.2]
                have h0 := HR.out.1
                rw [List.length_append] at h0
                refine h0.keep fun g hg => Below.heap_setCell _ _ _ _ (fun e => ?_)
                have h1 := (h0.block hg).1
                have e2 : g = w3.heap.size := e
                omega
              · have h1 := HR.out.2.1.size
                have h2 : ∀ v, (w9.setCell ⟨w3.heap.size, 1, none⟩ v).heap.size = w9.heap.size := fun v => by simp [World.setCell]
                rw [h2]
                omega
              · rw [HH.out.2.2.2.2.2.2]
                exact HHL.out.1
            case measure => simp [intOf]; omega
        · have t1 : decide ((k : Int) < (data.length : Int)) = false := decide_eq_false (by omega)
          obtain rfl : k = data.length := by omega
          rw [List.take_length] at hown hln hc
          have hcl7 := lt_of_block hc
          have H7 := Lib.hid (And.intro hK (And.intro hB (And.intro hc (And.intro hown hS))))
          generalize dataM data = dd at *
          clear hK hB hc hown hS hPr hln
          have hll := labsM_len F3 (text ++ data)
          have hlen : (text ++ data).length = text.length + data.length := List.length_append
          rw [hlen] at hll
          have HLN := Lib.hid (And.intro hlen hll)
          clear hlen hll
          obtain ⟨W7, hW7⟩ : ∃ W7, W7 = wr := ⟨_, rfl⟩
          subst hW7
          go_wp2_with fail
          go_loopw [65] (fun i wr => ∃ (k : Nat) (vl : Value), k ≤ text.length + data.length ∧ i = .int .i64 k ∧ (∀ g, g < W7.heap.size → g ≠ w3.heap.size → wr.heap[g]? = W7.heap[g]?) ∧ Below w3.heap.size w3 wr ∧ wr.heap[w3.heap.size]? = some (.cells #[.slice At l.length ct, .slice Ad dd.length cd, vl] 45 (0, 0)) ∧ OwnL wr W7.heap.size vl (labsM F3 ((text ++ data).take k)) ∧ W7.heap.size ≤ wr.heap.size) (fun i _ => text.length + data.length - (intOf i).toNat)
          case atStart =>
            exact ⟨0, .slice none 0 0, Nat.zero_le _, rfl, fun _ _ _ => rfl, H7.out.2.1, H7.out.2.2.1, OwnL.nil _ _, Nat.le_refl _⟩
          case round =>
            obtain ⟨k, vl, hk, rfl, hK, hB, hc, hown, hS⟩ := hrel
            have hPr := H3.out.2.2.2.keep hB
            obtain ⟨Al, cl, rfl, -⟩ := hown.form
            by_cases hlt : k < text.length + data.length
            · have t7 : decide ((k : Int) < (text.length : Int) + (data.length : Int)) = true := decide_eq_true (by omega)
              have hka : k < (text ++ data).length := by rw [HLN.out.1]; exact hlt
              have hs := HNS.out _ (List.getElem_mem hka)
              have hTk := labsM_take F3 (text ++ data) k hka
              have HI0 := (fun (W : World) (hW : PrAt W p TA tc text DA dc data at_ dat mb sv) => apitem_any W p TA tc text DA dc data at_ dat mb sv hW k hka)
              have hotl : (labsM F3 ((text ++ data).take k)).length ≤ 1048576 := by
                have := labsM_len F3 ((text ++ data).take k)
                rw [List.length_take] at this
                omega
              generalize labsM F3 ((text ++ data).take k) = ot at *
              obtain ⟨x, hx⟩ : ∃ x, (text ++ data)[k] = x := ⟨_, rfl⟩
              rw [hx] at hs hTk
              simp only [hx] at HI0
              clear hx
              obtain ⟨v0, v1, v2, v3, v4, v5, v6⟩ := x
              have HI := Lib.hid (show ∀ (W : World) (hW : PrAt W p TA tc text DA dc data at_ dat mb sv), Calls Tryd.prog 49 #[.pointer (some ⟨p, 0, none⟩), .int .i64 (k : Int)] W (fun e w' => e = .returned (.agg #[.int .i64 v0, .string v1, .int .i64 v2, .int .i64 v3, .int .i64 v4, .int .i64 v5, .int .i64 v6]) ∧ Below W.heap.size W w') from HI0)
              clear HI0
              have hp := hPr.lt
              have HPr := Lib.hid hPr
              have HH := Lib.hid (And.intro hK (And.intro hB (And.intro hc hown)))
              clear hPr hK hB hc hown
              by_cases hk1 : v0 = 1
              · subst hk1
                rw [if_pos rfl] at hTk
                have HTk := Lib.hid hTk
                clear hTk
                go_wp2_with fail
                with_reducible refine Calls.mono (HI.out _ HPr.out.pr) ?_
                rintro e w8 ⟨rfl, hB8⟩
                have hPx := (HPr.out.keep hB8).keep (form1 w8 (.cells #[.int .i64 1, .string v1, .int .i64 v2, .int .i64 v3, .int .i64 v4, .int .i64 v5, .int .i64 v6] 61))
                obtain ⟨W9, hW9⟩ : ∃ W9, W9 = w8.alloc (.cells #[.int .i64 1, .string v1, .int .i64 v2, .int .i64 v3, .int .i64 v4, .int .i64 v5, .int .i64 v6] 61) := ⟨_, rfl⟩
                have hBx : Below wr.heap.size wr W9 := by rw [hW9]; exact hB8.trans ((form1 w8 _).mono hB8.size)
                have hbl : W9.heap[w8.heap.size]? = some (.cells #[.int .i64 1, .string v1, .int .i64 v2, .int .i64 v3, .int .i64 v4, .int .i64 v5, .int .i64 v6] 61 (0, 0)) := by rw [hW9]; exact heap_alloc_new w8 _
                rw [← hW9] at hPx
                have HW9 := Lib.hid hW9
                clear hW9
                have g0 : W9.cell? ⟨w8.heap.size, 0, none⟩ = some (.int .i64 1) := (obj_cell hbl 0).trans rfl
                have g1 : W9.cell? ⟨w8.heap.size, 1, none⟩ = some (.string v1) := (obj_cell hbl 1).trans rfl
                have c4 : W9.cell? ⟨p, 4, none⟩ = some (.map (some mb)) := hPx.pr.cell 4
                have hp9 := hPx.lt
                have hlk := ((hPx.map).keep (w' := W9.drew) rfl).look v1 hs
                have hc9 := (hBx.block w3.heap.size (by omega)).trans HH.out.2.2.1
                have p2 : W9.cell? ⟨w3.heap.size, 2, none⟩ = some (.slice Al ot.length cl) := (obj_cell hc9 2).trans rfl
                have p2f : W9.frozen? ⟨w3.heap.size, 2, none⟩ = false := obj_frozen hc9 2
                have hcl9 := lt_of_block hc9
                generalize (F3 v1.data.toList).getD 0 = q at *
                have HX9 := Lib.hid (And.intro hBx hc9)
                have hs9 := hBx.size
                have hownW : OwnL (W9.alloc (.cells #[.string v1, .int .u64 (q : Int)] 50)).drew W7.heap.size (.slice Al ot.length cl) ot := owns_below (owns_below HH.out.2.2.2 hBx) (form1 W9 _).drew
                have hlit : Cs (W9.alloc (.cells #[.string v1, .int .u64 (q : Int)] 50)).drew.heap.size (W9.alloc (.cells #[.string v1, .int .u64 (q : Int)] 50)).drew (some ⟨W9.heap.size, 0, none⟩) (lcells [(v1, q)]) := lit_l W9 v1 q
                have hbs : W7.heap.size ≤ (W9.alloc (.cells #[.string v1, .int .u64 (q : Int)] 50)).drew.heap.size := by show _ ≤ (W9.alloc _).heap.size; rw [World.size_alloc]; omega
                have hlen1 : ot.length + 1 ≤ 1000000000 := by omega
                have HLW := Lib.hid (And.intro hownW (And.intro hlit (And.intro hlen1 hbs)))
                clear hlen1
                have HX9 := Lib.hid (And.intro hBx hc9)
                clear hPx hBx hc9 hbl hB8 hownW hlit hbs
                go_upto_region 19 with fail
                rw [← HW9.out]
                go_region_law (refine step_appL rfl (.tmp 75) (.tmp 86) rfl W7.heap.size (.slice Al ot.length cl) ot rfl HLW.out.1 _ (some ⟨W9.heap.size, 0, none⟩) 1 1 [(v1, q)] rfl rfl HLW.out.2.1 HLW.out.2.2.1 HLW.out.2.2.2 ?_
                               intro v10 w10 hown10 hB10 hk10 hs10
                               obtain ⟨A10, c10, rfl, -⟩ := hown10.form
                               have hr10 : Below W7.heap.size wr w10 := hB10 wr (((HX9.out.1.trans ((form1 W9 _).mono hs9)).drew).mono (by omega))
                               have hc10 := (hr10.block w3.heap.size hcl7).trans HH.out.2.2.1
                               have r1 := (obj_cell hc10 2).trans rfl
                               have r1f := obj_frozen hc10 2
                               have hcl10 := lt_of_block hc10
                               have HR := Lib.hid (And.intro hown10 (And.intro hr10 hc10))
                               clear hown10 hB10 hk10 hr10 hc10)
                all_goals
                  go_wp2_with fail
                  go_roundw
                  case rel =>
                    refine ⟨k + 1, _, by omega, by go_num, fun g hg hne => ?_, ?_, obj_set HR.out.2.2 2 _, ?_, ?_⟩
                    · rw [Below.heap_setCell _ _ _ _ hne, HR.out.2.1.block g hg]
                      exact HH.out.1 g hg hne
                    · exact (HH.out.2.1.trans (HR.out.2.1.mono (Nat.le_of_lt hcl7))).setCell (Nat.le_refl _) _
                    · rw [HTk.out]
                      have h0 := HR.out.1
                      rw [List.length_append] at h0
                      refine owns_keep h0 fun g hg => Below.heap_setCell _ _ _ _ (fun e => ?_)
                      have h1 := (owns_block h0 hg).1
                      have e2 : g = w3.heap.size := e
                      omega
                    · have h1 := HR.out.2.1.size
                      have h2 : ∀ v, (w10.setCell ⟨w3.heap.size, 2, none⟩ v).heap.size = w10.heap.size := fun v => by simp [World.setCell]
                      rw [h2]
                      omega
                  case measure => simp [intOf]; omega
              · have tk : (v0 == 1) = false := by simpa using hk1
                rw [if_neg hk1, List.append_nil] at hTk
                have HTk := Lib.hid hTk
                clear hTk hk1
                go_wp2_with fail
                with_reducible refine Calls.mono (HI.out _ HPr.out.pr) ?_
                rintro e w8 ⟨rfl, hB8⟩
                have hBx : Below wr.heap.size wr (w8.alloc (.cells #[.int .i64 v0, .string v1, .int .i64 v2, .int .i64 v3, .int .i64 v4, .int .i64 v5, .int .i64 v6] 61)) := hB8.trans ((form1 w8 _).mono hB8.size)
                have HX9 := Lib.hid hBx
                clear hBx hB8
                go_wp2_with fail
                go_roundw
                case rel =>
                  refine ⟨k + 1, _, by omega, by go_num, fun g hg hne => ?_, ?_, (HX9.out.block w3.heap.size (by omega)).trans HH.out.2.2.1, ?_, ?_⟩
                  · rw [HX9.out.block g (by omega)]
                    exact HH.out.1 g hg hne
                  · exact HH.out.2.1.trans (HX9.out.mono (by omega))
                  · rw [HTk.out]
                    exact owns_below HH.out.2.2.2 HX9.out
                  · exact Nat.le_trans hS HX9.out.size
                case measure => simp [intOf]; omega
            · have t7 : decide ((k : Int) < (text.length : Int) + (data.length : Int)) = false := decide_eq_false (by omega)
              obtain rfl : k = text.length + data.length := by omega
              rw [show (text ++ data).take (text.length + data.length) = text ++ data from List.take_of_length_le (by rw [HLN.out.1]; exact Nat.le_refl _)] at hown hc
              have hlb : labsM (layM text data S at_ dat F) (text ++ data) = labsM F3 (text ++ data) := by rw [HF3.out]
              generalize labsM F3 (text ++ data) = lb at *
              have c0 := (obj_cell hc 0).trans rfl
              have c1 := (obj_cell hc 1).trans rfl
              have c2 := (obj_cell hc 2).trans rfl
              have hzf := (hB.block w.heap.size hzl3).trans H3.out.1
              obtain ⟨⟨y0, y1, y2⟩, y3, y4, y5⟩ := code_zero hzf
              have hcl8 := lt_of_block hc
              have hzl8 := lt_of_block hzf
              have o1 : OwnB wr (w3.heap.size + 1) (.slice At l.length ct) l := HV5.out.keep fun g hg => by
                obtain ⟨h1, cur, h2⟩ := HV5.out.block hg
                have h3 := lt_of_block h2
                rw [hK g (Nat.lt_of_lt_of_le h3 H7.out.2.2.2.2) (by omega), H7.out.1 g h3 (by omega)]
              have o2 : OwnB wr W5.heap.size (.slice Ad dd.length cd) dd := H7.out.2.2.2.1.keep fun g hg => by
                obtain ⟨h1, cur, h2⟩ := H7.out.2.2.2.1.block hg
                exact hK g (lt_of_block h2) (by omega)
              have hW57 := H7.out.2.2.2.2
              have hF := Lib.hid (And.intro o1 (And.intro o2 (And.intro hown (And.intro hzf (And.intro (H3.out.2.1.trans (hB.mono (Nat.le_of_lt hzl3))) hlb)))))
              clear hK hB hc hown hPr o1 o2 hzf hlb
              go_wp2_with fail
              refine code_ret _ _ w.heap.size _ _ _ hF.out.2.2.2.1 _ _ _ _ _ _ rfl rfl rfl (HPo.out _ S l _ _ _ HFN.out (by rw [HF3.out]; exact HBE.out) (below_set3 hF.out.2.2.2.2.1 (Nat.le_refl _) _ _ _) ?_ ?_ ?_)
              · exact own_set3 hF.out.1 (by omega) (by omega) _ _ _
              · exact own_set3 hF.out.2.1 (by omega) (by omega) _ _ _
              · rw [hF.out.2.2.2.2.2]
                exact own_set3 hF.out.2.2.1 (by omega) (by omega) _ _ _
end
end Go.Proofs
