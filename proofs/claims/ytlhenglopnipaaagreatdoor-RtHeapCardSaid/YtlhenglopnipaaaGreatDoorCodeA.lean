/- (*program).code: an item's instructions. (Printed by wip/tools/gen_code.py.) -/
import Derived.Test.YtlhenglopnipaaaGreatDoorAsmPQ
import Derived.BigQuiet
import Derived.RegionTactic
import Derived.Test.YtlhenglopnipaaaGreatDoorLiA
import Derived.Deep.QuietTactic
import Derived.Test.YtlhenglopnipaaaGreatDoorAsmW
import Derived.OwnWalk
import Derived.StillTailTactics
namespace Go.Proofs
open Go Go.RowKit Go.Pat
def CodeTo (c : List In × Bool) (w : World) (e : Ending) (w' : World) : Prop := ∃ v, e = .returned (.tuple #[v, .bool c.2]) ∧ OwnI w' w.heap.size v c.1 ∧ Below w.heap.size w w'
theorem own_at {W : World} {base n : Nat} (hb : base ≤ W.heap.size) (hn : W.heap.size = n) (i : In) : OwnI (W.alloc (.cells #[.int .i64 i.op, .int .i64 i.rd, .int .i64 i.a, .int .i64 i.b, .int .i64 i.n] 26)) base (.slice (some ⟨n, 0, none⟩) 1 1) [i] := by
  subst hn
  exact OwnI.lit W base hb i
theorem own_at2 {W : World} {base n : Nat} (hb : base ≤ W.heap.size) (hn : W.heap.size = n) (i j : In) : OwnI (W.alloc (.cells #[.int .i64 i.op, .int .i64 i.rd, .int .i64 i.a, .int .i64 i.b, .int .i64 i.n, .int .i64 j.op, .int .i64 j.rd, .int .i64 j.a, .int .i64 j.b, .int .i64 j.n] 26)) base (.slice (some ⟨n, 0, none⟩) 2 2) [i, j] := by
  subst hn
  exact World.ownsRow_lit (base := base) (e := 26) (size := 5) W #[.int .i64 i.op, .int .i64 i.rd, .int .i64 i.a, .int .i64 i.b, .int .i64 i.n, .int .i64 j.op, .int .i64 j.rd, .int .i64 j.a, .int .i64 j.b, .int .i64 j.n] 2 hb (by decide) rfl
theorem size_alN (w : World) (o : Obj) (j : Nat) : ((w.alloc o).drewN j).heap.size = w.heap.size + 1 := World.size_alloc w o
theorem tmodTwo (d : Int) : d.tmod 2 = 0 ↔ d % 2 = 0 := by rw [← Int.dvd_iff_tmod_eq_zero, Int.dvd_iff_emod_eq_zero]
theorem size_alN2 (w : World) (o : Obj) (j : Nat) (o2 : Obj) : (((w.alloc o).drewN j).alloc o2).heap.size = w.heap.size + 1 + 1 := by rw [World.size_alloc, size_alN]
theorem belowN2 (w : World) (a : Obj) (j : Nat) (b c : Obj) : Below w.heap.size w ((((w.alloc a).drewN j).alloc b).alloc c) := by
  have h1 := bdrewN (form1 w a) j
  have h2 := h1.alloc h1.size b
  exact h2.alloc h2.size c
theorem belowN1 (w : World) (a : Obj) (j : Nat) (b : Obj) : Below w.heap.size w (((w.alloc a).drewN j).alloc b) := by
  have h1 := bdrewN (form1 w a) j
  exact h1.alloc h1.size b
theorem blockN2 (w : World) (a : Obj) (j : Nat) (b : Obj) : (((w.alloc a).drewN j).alloc b).heap[w.heap.size + 1]? = some b := by
  have h := heap_alloc_new ((w.alloc a).drewN j) b
  rw [size_alN] at h
  exact h
theorem size_al (w : World) (o : Obj) : (w.alloc o).heap.size = w.heap.size + 1 := World.size_alloc w o
section
variable (w : World) (p : Nat) (TA : Option Addr) (tc : Nat) (text : List It) (DA : Option Addr) (dc : Nat) (data : List It) (at_ dat mb : Nat) (SA : Option Addr) (sc : Nat) (sizes : List Int)
set_option maxRecDepth 20000 in
set_option maxHeartbeats 4000000 in
theorem acode_odd5 (hP : PrAt w p TA tc text DA dc data at_ dat mb (.slice SA sizes.length sc)) (nm : Nat) (F : List UInt8 → Option Nat) (hM : SMap w mb nm F) (hS : Cs w.heap.size w SA (sizes.map (Value.int .i64))) (hl : sizes.length = text.length)
    (n : Nat) (hn : n < text.length) (ad : Nat) (hns : (text[n]).s.size ≤ maxLen) (hk : (text[n]).k = 5) (ho : distM F (text[n]).s ad % 2 ≠ 0) :
    Calls Tryz.prog 62 #[.pointer (some ⟨p, 0, none⟩), .int .i64 (n : Int), .int .u64 (ad : Int)] w (CodeTo (codeM text[n] (sizes[n]'(by omega)) (distM F (text[n]).s ad)) w) := by
  have hlt := lt_of_block hP.str
  have c0 : w.cell? ⟨p, 0, none⟩ = some (.slice TA text.length tc) := hP.cell 0
  have c4 : w.cell? ⟨p, 4, none⟩ = some (.map (some mb)) := hP.cell 4
  have c5 : w.cell? ⟨p, 5, none⟩ = some (.slice SA sizes.length sc) := hP.cell 5
  obtain ⟨b, o, rfl, hb, x0, x1, x2, x3, x4, x5, x6⟩ := item_at hP.tx n hn
  obtain ⟨b2, o2, rfl, hb2, y0⟩ := hS n (by simp; omega)
  simp only [List.getElem_map] at y0
  have htl := hP.tl
  have hML := fun (X : Obj) (j : Nat) => ((hM.below (form1 w X)).keep (w' := (w.alloc X).drewN j) rfl).look _ hns
  have hML0 := fun (X : Obj) => (hM.below (form1 w X)).look _ hns
  have hmb := hM.lt
  generalize hd : distM F (text[n]).s ad = d at *
  unfold distM at hd
  have tt : decide ((n : Int) < (text.length : Int)) = true := decide_eq_true (by omega)
  have hnl : (n : Int) < (text.length : Int) := by omega
  have hnl2 : (n : Int) < (sizes.length : Int) := by omega
  have hn2 : n < sizes.length := by omega
  generalize sizes[n] = sz at *
  clear hP hM hS hl
  generalize text[n] = x at *
  obtain ⟨v0, v1, v2, v3, v4, v5, v6⟩ := x
  try simp only at x0 x1 x2 x3 x4 x5 x6 hd hns hML hML0 hk ho
  generalize (F v1.data.toList).getD 0 = q at *
  subst hk
  have to : (d.tmod 2 != 0) = true := by rw [bne_iff_ne, ne_eq, tmodTwo]; exact ho
  have HV := Lib.hid (show codeM ⟨5, v1, v2, v3, v4, v5, v6⟩ sz d = ([], false) by unfold codeM; rw [if_pos ⟨by simp, ho⟩])
  clear ho
  go_enter Tryz.func62, Tryz.ntmps62
  go_wp2_with fail
  go_quiet (fail)
  go_wp2_with fail
  go_ret2
  rw [HV.out]
  exact ⟨_, rfl, OwnI.nil _ _, bdrewN (form1 w _) _⟩
set_option maxRecDepth 20000 in
set_option maxHeartbeats 4000000 in
theorem acode_odd6 (hP : PrAt w p TA tc text DA dc data at_ dat mb (.slice SA sizes.length sc)) (nm : Nat) (F : List UInt8 → Option Nat) (hM : SMap w mb nm F) (hS : Cs w.heap.size w SA (sizes.map (Value.int .i64))) (hl : sizes.length = text.length)
    (n : Nat) (hn : n < text.length) (ad : Nat) (hns : (text[n]).s.size ≤ maxLen) (hk : (text[n]).k = 6) (ho : distM F (text[n]).s ad % 2 ≠ 0) :
    Calls Tryz.prog 62 #[.pointer (some ⟨p, 0, none⟩), .int .i64 (n : Int), .int .u64 (ad : Int)] w (CodeTo (codeM text[n] (sizes[n]'(by omega)) (distM F (text[n]).s ad)) w) := by
  have hlt := lt_of_block hP.str
  have c0 : w.cell? ⟨p, 0, none⟩ = some (.slice TA text.length tc) := hP.cell 0
  have c4 : w.cell? ⟨p, 4, none⟩ = some (.map (some mb)) := hP.cell 4
  have c5 : w.cell? ⟨p, 5, none⟩ = some (.slice SA sizes.length sc) := hP.cell 5
  obtain ⟨b, o, rfl, hb, x0, x1, x2, x3, x4, x5, x6⟩ := item_at hP.tx n hn
  obtain ⟨b2, o2, rfl, hb2, y0⟩ := hS n (by simp; omega)
  simp only [List.getElem_map] at y0
  have htl := hP.tl
  have hML := fun (X : Obj) (j : Nat) => ((hM.below (form1 w X)).keep (w' := (w.alloc X).drewN j) rfl).look _ hns
  have hML0 := fun (X : Obj) => (hM.below (form1 w X)).look _ hns
  have hmb := hM.lt
  generalize hd : distM F (text[n]).s ad = d at *
  unfold distM at hd
  have tt : decide ((n : Int) < (text.length : Int)) = true := decide_eq_true (by omega)
  have hnl : (n : Int) < (text.length : Int) := by omega
  have hnl2 : (n : Int) < (sizes.length : Int) := by omega
  have hn2 : n < sizes.length := by omega
  generalize sizes[n] = sz at *
  clear hP hM hS hl
  generalize text[n] = x at *
  obtain ⟨v0, v1, v2, v3, v4, v5, v6⟩ := x
  try simp only at x0 x1 x2 x3 x4 x5 x6 hd hns hML hML0 hk ho
  generalize (F v1.data.toList).getD 0 = q at *
  subst hk
  have to : (d.tmod 2 != 0) = true := by rw [bne_iff_ne, ne_eq, tmodTwo]; exact ho
  have HV := Lib.hid (show codeM ⟨6, v1, v2, v3, v4, v5, v6⟩ sz d = ([], false) by unfold codeM; rw [if_pos ⟨by simp, ho⟩])
  clear ho
  go_enter Tryz.func62, Tryz.ntmps62
  go_wp2_with fail
  go_quiet (fail)
  go_wp2_with fail
  go_ret2
  rw [HV.out]
  exact ⟨_, rfl, OwnI.nil _ _, bdrewN (form1 w _) _⟩
set_option maxRecDepth 20000 in
set_option maxHeartbeats 4000000 in
theorem acode_odd7 (hP : PrAt w p TA tc text DA dc data at_ dat mb (.slice SA sizes.length sc)) (nm : Nat) (F : List UInt8 → Option Nat) (hM : SMap w mb nm F) (hS : Cs w.heap.size w SA (sizes.map (Value.int .i64))) (hl : sizes.length = text.length)
    (n : Nat) (hn : n < text.length) (ad : Nat) (hns : (text[n]).s.size ≤ maxLen) (hk : (text[n]).k = 7) (ho : distM F (text[n]).s ad % 2 ≠ 0) :
    Calls Tryz.prog 62 #[.pointer (some ⟨p, 0, none⟩), .int .i64 (n : Int), .int .u64 (ad : Int)] w (CodeTo (codeM text[n] (sizes[n]'(by omega)) (distM F (text[n]).s ad)) w) := by
  have hlt := lt_of_block hP.str
  have c0 : w.cell? ⟨p, 0, none⟩ = some (.slice TA text.length tc) := hP.cell 0
  have c4 : w.cell? ⟨p, 4, none⟩ = some (.map (some mb)) := hP.cell 4
  have c5 : w.cell? ⟨p, 5, none⟩ = some (.slice SA sizes.length sc) := hP.cell 5
  obtain ⟨b, o, rfl, hb, x0, x1, x2, x3, x4, x5, x6⟩ := item_at hP.tx n hn
  obtain ⟨b2, o2, rfl, hb2, y0⟩ := hS n (by simp; omega)
  simp only [List.getElem_map] at y0
  have htl := hP.tl
  have hML := fun (X : Obj) (j : Nat) => ((hM.below (form1 w X)).keep (w' := (w.alloc X).drewN j) rfl).look _ hns
  have hML0 := fun (X : Obj) => (hM.below (form1 w X)).look _ hns
  have hmb := hM.lt
  generalize hd : distM F (text[n]).s ad = d at *
  unfold distM at hd
  have tt : decide ((n : Int) < (text.length : Int)) = true := decide_eq_true (by omega)
  have hnl : (n : Int) < (text.length : Int) := by omega
  have hnl2 : (n : Int) < (sizes.length : Int) := by omega
  have hn2 : n < sizes.length := by omega
  generalize sizes[n] = sz at *
  clear hP hM hS hl
  generalize text[n] = x at *
  obtain ⟨v0, v1, v2, v3, v4, v5, v6⟩ := x
  try simp only at x0 x1 x2 x3 x4 x5 x6 hd hns hML hML0 hk ho
  generalize (F v1.data.toList).getD 0 = q at *
  subst hk
  have to : (d.tmod 2 != 0) = true := by rw [bne_iff_ne, ne_eq, tmodTwo]; exact ho
  have HV := Lib.hid (show codeM ⟨7, v1, v2, v3, v4, v5, v6⟩ sz d = ([], false) by unfold codeM; rw [if_pos ⟨by simp, ho⟩])
  clear ho
  go_enter Tryz.func62, Tryz.ntmps62
  go_wp2_with fail
  go_quiet (fail)
  go_wp2_with fail
  go_ret2
  rw [HV.out]
  exact ⟨_, rfl, OwnI.nil _ _, bdrewN (form1 w _) _⟩
set_option maxRecDepth 20000 in
set_option maxHeartbeats 4000000 in
theorem acode_2 (hP : PrAt w p TA tc text DA dc data at_ dat mb (.slice SA sizes.length sc)) (nm : Nat) (F : List UInt8 → Option Nat) (hM : SMap w mb nm F) (hS : Cs w.heap.size w SA (sizes.map (Value.int .i64))) (hl : sizes.length = text.length)
    (n : Nat) (hn : n < text.length) (ad : Nat) (hns : (text[n]).s.size ≤ maxLen) (hk : (text[n]).k = 2) :
    Calls Tryz.prog 62 #[.pointer (some ⟨p, 0, none⟩), .int .i64 (n : Int), .int .u64 (ad : Int)] w (CodeTo (codeM text[n] (sizes[n]'(by omega)) (distM F (text[n]).s ad)) w) := by
  have hlt := lt_of_block hP.str
  have c0 : w.cell? ⟨p, 0, none⟩ = some (.slice TA text.length tc) := hP.cell 0
  have c4 : w.cell? ⟨p, 4, none⟩ = some (.map (some mb)) := hP.cell 4
  have c5 : w.cell? ⟨p, 5, none⟩ = some (.slice SA sizes.length sc) := hP.cell 5
  obtain ⟨b, o, rfl, hb, x0, x1, x2, x3, x4, x5, x6⟩ := item_at hP.tx n hn
  obtain ⟨b2, o2, rfl, hb2, y0⟩ := hS n (by simp; omega)
  simp only [List.getElem_map] at y0
  have htl := hP.tl
  have hML := fun (X : Obj) (j : Nat) => ((hM.below (form1 w X)).keep (w' := (w.alloc X).drewN j) rfl).look _ hns
  have hML0 := fun (X : Obj) => (hM.below (form1 w X)).look _ hns
  have hmb := hM.lt
  generalize hd : distM F (text[n]).s ad = d at *
  unfold distM at hd
  have tt : decide ((n : Int) < (text.length : Int)) = true := decide_eq_true (by omega)
  have hnl : (n : Int) < (text.length : Int) := by omega
  have hnl2 : (n : Int) < (sizes.length : Int) := by omega
  have hn2 : n < sizes.length := by omega
  generalize sizes[n] = sz at *
  clear hP hM hS hl
  generalize text[n] = x at *
  obtain ⟨v0, v1, v2, v3, v4, v5, v6⟩ := x
  try simp only at x0 x1 x2 x3 x4 x5 x6 hd hns hML hML0 hk
  generalize (F v1.data.toList).getD 0 = q at *
  subst hk
  have HV := Lib.hid (show codeM ⟨2, v1, v2, v3, v4, v5, v6⟩ sz d = ([⟨v2, v3, v4, v5, v6⟩], true) by unfold codeM; rw [if_neg (by simp), if_pos rfl])
  go_enter Tryz.func62, Tryz.ntmps62
  go_wp2_with fail
  go_quiet (fail)
  go_wp2_with fail
  go_ret2
  rw [HV.out]
  exact ⟨_, rfl, own_at (by rw [size_alN]; omega) (size_alN w _ _) ⟨v2, v3, v4, v5, v6⟩, (bdrewN (form1 w _) _).alloc (form1 w _).size _⟩
set_option maxRecDepth 20000 in
set_option maxHeartbeats 4000000 in
theorem acode_3 (hP : PrAt w p TA tc text DA dc data at_ dat mb (.slice SA sizes.length sc)) (nm : Nat) (F : List UInt8 → Option Nat) (hM : SMap w mb nm F) (hS : Cs w.heap.size w SA (sizes.map (Value.int .i64))) (hl : sizes.length = text.length)
    (n : Nat) (hn : n < text.length) (ad : Nat) (hns : (text[n]).s.size ≤ maxLen) (hk : (text[n]).k = 3) (hT : TzTab w) (hr : -9223372036854775808 ≤ (text[n]).n ∧ (text[n]).n < 9223372036854775808) :
    Calls Tryz.prog 62 #[.pointer (some ⟨p, 0, none⟩), .int .i64 (n : Int), .int .u64 (ad : Int)] w (CodeTo (codeM text[n] (sizes[n]'(by omega)) (distM F (text[n]).s ad)) w) := by
  have hlt := lt_of_block hP.str
  have c0 : w.cell? ⟨p, 0, none⟩ = some (.slice TA text.length tc) := hP.cell 0
  have c4 : w.cell? ⟨p, 4, none⟩ = some (.map (some mb)) := hP.cell 4
  have c5 : w.cell? ⟨p, 5, none⟩ = some (.slice SA sizes.length sc) := hP.cell 5
  obtain ⟨b, o, rfl, hb, x0, x1, x2, x3, x4, x5, x6⟩ := item_at hP.tx n hn
  obtain ⟨b2, o2, rfl, hb2, y0⟩ := hS n (by simp; omega)
  simp only [List.getElem_map] at y0
  have htl := hP.tl
  have hML := fun (X : Obj) (j : Nat) => ((hM.below (form1 w X)).keep (w' := (w.alloc X).drewN j) rfl).look _ hns
  have hML0 := fun (X : Obj) => (hM.below (form1 w X)).look _ hns
  have hmb := hM.lt
  generalize hd : distM F (text[n]).s ad = d at *
  unfold distM at hd
  have tt : decide ((n : Int) < (text.length : Int)) = true := decide_eq_true (by omega)
  have hnl : (n : Int) < (text.length : Int) := by omega
  have hnl2 : (n : Int) < (sizes.length : Int) := by omega
  have hn2 : n < sizes.length := by omega
  generalize sizes[n] = sz at *
  clear hP hM hS hl
  generalize text[n] = x at *
  obtain ⟨v0, v1, v2, v3, v4, v5, v6⟩ := x
  try simp only at x0 x1 x2 x3 x4 x5 x6 hd hns hML hML0 hk hT hr
  generalize (F v1.data.toList).getD 0 = q at *
  subst hk
  have HV := Lib.hid (show codeM ⟨3, v1, v2, v3, v4, v5, v6⟩ sz d = (liL v3 v6, true) by unfold codeM; rw [if_neg (by simp), if_neg (by simp), if_pos rfl])
  have HL := Lib.hid (fun W hW => li_all v3 v6 W hW hr)
  have HT := Lib.hid hT
  clear hT hr
  go_enter Tryz.func62, Tryz.ntmps62
  go_wp2_with fail
  go_quiet (fail)
  go_wp2_with fail
  refine Calls.mono (HL.out _ (HT.out.below (bdrewN (form1 w _) _))) ?_
  rintro e w2 ⟨v, rfl, hown, hB2⟩
  have HO := Lib.hid hown
  clear hown
  go_wp2_with fail
  go_ret2
  rw [HV.out]
  exact ⟨_, rfl, HO.out.base (bdrewN (form1 w _) _).size, (bdrewN (form1 w _) _).trans (hB2.mono (bdrewN (form1 w _) _).size)⟩
set_option maxRecDepth 20000 in
set_option maxHeartbeats 4000000 in
theorem acode_4 (hP : PrAt w p TA tc text DA dc data at_ dat mb (.slice SA sizes.length sc)) (nm : Nat) (F : List UInt8 → Option Nat) (hM : SMap w mb nm F) (hS : Cs w.heap.size w SA (sizes.map (Value.int .i64))) (hl : sizes.length = text.length)
    (n : Nat) (hn : n < text.length) (ad : Nat) (hns : (text[n]).s.size ≤ maxLen) (hk : (text[n]).k = 4) :
    Calls Tryz.prog 62 #[.pointer (some ⟨p, 0, none⟩), .int .i64 (n : Int), .int .u64 (ad : Int)] w (CodeTo (codeM text[n] (sizes[n]'(by omega)) (distM F (text[n]).s ad)) w) := by
  have hlt := lt_of_block hP.str
  have c0 : w.cell? ⟨p, 0, none⟩ = some (.slice TA text.length tc) := hP.cell 0
  have c4 : w.cell? ⟨p, 4, none⟩ = some (.map (some mb)) := hP.cell 4
  have c5 : w.cell? ⟨p, 5, none⟩ = some (.slice SA sizes.length sc) := hP.cell 5
  obtain ⟨b, o, rfl, hb, x0, x1, x2, x3, x4, x5, x6⟩ := item_at hP.tx n hn
  obtain ⟨b2, o2, rfl, hb2, y0⟩ := hS n (by simp; omega)
  simp only [List.getElem_map] at y0
  have htl := hP.tl
  have hML := fun (X : Obj) (j : Nat) => ((hM.below (form1 w X)).keep (w' := (w.alloc X).drewN j) rfl).look _ hns
  have hML0 := fun (X : Obj) => (hM.below (form1 w X)).look _ hns
  have hmb := hM.lt
  generalize hd : distM F (text[n]).s ad = d at *
  unfold distM at hd
  have tt : decide ((n : Int) < (text.length : Int)) = true := decide_eq_true (by omega)
  have hnl : (n : Int) < (text.length : Int) := by omega
  have hnl2 : (n : Int) < (sizes.length : Int) := by omega
  have hn2 : n < sizes.length := by omega
  generalize sizes[n] = sz at *
  clear hP hM hS hl
  generalize text[n] = x at *
  obtain ⟨v0, v1, v2, v3, v4, v5, v6⟩ := x
  try simp only at x0 x1 x2 x3 x4 x5 x6 hd hns hML hML0 hk
  generalize (F v1.data.toList).getD 0 = q at *
  subst hk
  have HV := Lib.hid (show codeM ⟨4, v1, v2, v3, v4, v5, v6⟩ sz d = ([⟨2, v3, 0, 0, farH d⟩, ⟨22, v3, v3, 0, restI d⟩], farB d) by unfold codeM; rw [if_neg (by simp), if_neg (by simp), if_neg (by simp), if_pos rfl])
  go_enter Tryz.func62, Tryz.ntmps62
  go_wp2_with fail
  go_quiet (fail)
  go_wp2_with (go_at_call 83; refine (apairLa_any v3 d w.heap.size _ ?hc ?hl).mono ?hk)
  case hc => go_simp
  case hl => rw [size_alN]; omega
  case hk =>
    rintro e w2 ⟨v, rfl, hown, hB2⟩
    have HO := Lib.hid hown
    clear hown
    go_wp2_with fail
    go_ret2
    rw [HV.out]
    exact ⟨_, rfl, HO.out.base (bdrewN (form1 w _) _).size, (bdrewN (form1 w _) _).trans (hB2.mono (bdrewN (form1 w _) _).size)⟩
set_option maxRecDepth 20000 in
set_option maxHeartbeats 4000000 in
theorem acode_5_4 (hP : PrAt w p TA tc text DA dc data at_ dat mb (.slice SA sizes.length sc)) (nm : Nat) (F : List UInt8 → Option Nat) (hM : SMap w mb nm F) (hS : Cs w.heap.size w SA (sizes.map (Value.int .i64))) (hl : sizes.length = text.length)
    (n : Nat) (hn : n < text.length) (ad : Nat) (hns : (text[n]).s.size ≤ maxLen) (hk : (text[n]).k = 5) (ho : distM F (text[n]).s ad % 2 = 0) (hz : sizes[n]'(by omega) = 4) :
    Calls Tryz.prog 62 #[.pointer (some ⟨p, 0, none⟩), .int .i64 (n : Int), .int .u64 (ad : Int)] w (CodeTo (codeM text[n] (sizes[n]'(by omega)) (distM F (text[n]).s ad)) w) := by
  have hlt := lt_of_block hP.str
  have c0 : w.cell? ⟨p, 0, none⟩ = some (.slice TA text.length tc) := hP.cell 0
  have c4 : w.cell? ⟨p, 4, none⟩ = some (.map (some mb)) := hP.cell 4
  have c5 : w.cell? ⟨p, 5, none⟩ = some (.slice SA sizes.length sc) := hP.cell 5
  obtain ⟨b, o, rfl, hb, x0, x1, x2, x3, x4, x5, x6⟩ := item_at hP.tx n hn
  obtain ⟨b2, o2, rfl, hb2, y0⟩ := hS n (by simp; omega)
  simp only [List.getElem_map] at y0
  have htl := hP.tl
  have hML := fun (X : Obj) (j : Nat) => ((hM.below (form1 w X)).keep (w' := (w.alloc X).drewN j) rfl).look _ hns
  have hML0 := fun (X : Obj) => (hM.below (form1 w X)).look _ hns
  have hmb := hM.lt
  generalize hd : distM F (text[n]).s ad = d at *
  unfold distM at hd
  have tt : decide ((n : Int) < (text.length : Int)) = true := decide_eq_true (by omega)
  have hnl : (n : Int) < (text.length : Int) := by omega
  have hnl2 : (n : Int) < (sizes.length : Int) := by omega
  have hn2 : n < sizes.length := by omega
  generalize sizes[n] = sz at *
  clear hP hM hS hl
  generalize text[n] = x at *
  obtain ⟨v0, v1, v2, v3, v4, v5, v6⟩ := x
  try simp only at x0 x1 x2 x3 x4 x5 x6 hd hns hML hML0 hk ho hz
  generalize (F v1.data.toList).getD 0 = q at *
  subst hk
  subst hz
  have to : (d.tmod 2 != 0) = false := by rw [bne_eq_false_iff_eq, tmodTwo]; exact ho
  have HV := Lib.hid (show codeM ⟨5, v1, v2, v3, v4, v5, v6⟩ 4 d = ([⟨3, v3, 0, 0, d⟩], true) by unfold codeM; rw [if_neg (fun c => c.2 ho), if_neg (by simp), if_neg (by simp), if_neg (by simp), if_pos (by simp), if_pos rfl])
  clear ho
  go_enter Tryz.func62, Tryz.ntmps62
  go_wp2_with fail
  go_quiet (fail)
  go_wp2_with fail
  go_ret2
  rw [HV.out]
  exact ⟨_, rfl, own_at (by rw [size_alN]; omega) (size_alN w _ _) ⟨3, v3, 0, 0, d⟩, (bdrewN (form1 w _) _).alloc (form1 w _).size _⟩
set_option maxRecDepth 20000 in
set_option maxHeartbeats 4000000 in
theorem acode_5_8 (hP : PrAt w p TA tc text DA dc data at_ dat mb (.slice SA sizes.length sc)) (nm : Nat) (F : List UInt8 → Option Nat) (hM : SMap w mb nm F) (hS : Cs w.heap.size w SA (sizes.map (Value.int .i64))) (hl : sizes.length = text.length)
    (n : Nat) (hn : n < text.length) (ad : Nat) (hns : (text[n]).s.size ≤ maxLen) (hk : (text[n]).k = 5) (ho : distM F (text[n]).s ad % 2 = 0) (hz : sizes[n]'(by omega) ≠ 4) :
    Calls Tryz.prog 62 #[.pointer (some ⟨p, 0, none⟩), .int .i64 (n : Int), .int .u64 (ad : Int)] w (CodeTo (codeM text[n] (sizes[n]'(by omega)) (distM F (text[n]).s ad)) w) := by
  have hlt := lt_of_block hP.str
  have c0 : w.cell? ⟨p, 0, none⟩ = some (.slice TA text.length tc) := hP.cell 0
  have c4 : w.cell? ⟨p, 4, none⟩ = some (.map (some mb)) := hP.cell 4
  have c5 : w.cell? ⟨p, 5, none⟩ = some (.slice SA sizes.length sc) := hP.cell 5
  obtain ⟨b, o, rfl, hb, x0, x1, x2, x3, x4, x5, x6⟩ := item_at hP.tx n hn
  obtain ⟨b2, o2, rfl, hb2, y0⟩ := hS n (by simp; omega)
  simp only [List.getElem_map] at y0
  have htl := hP.tl
  have hML := fun (X : Obj) (j : Nat) => ((hM.below (form1 w X)).keep (w' := (w.alloc X).drewN j) rfl).look _ hns
  have hML0 := fun (X : Obj) => (hM.below (form1 w X)).look _ hns
  have hmb := hM.lt
  generalize hd : distM F (text[n]).s ad = d at *
  unfold distM at hd
  have tt : decide ((n : Int) < (text.length : Int)) = true := decide_eq_true (by omega)
  have hnl : (n : Int) < (text.length : Int) := by omega
  have hnl2 : (n : Int) < (sizes.length : Int) := by omega
  have hn2 : n < sizes.length := by omega
  generalize sizes[n] = sz at *
  clear hP hM hS hl
  generalize text[n] = x at *
  obtain ⟨v0, v1, v2, v3, v4, v5, v6⟩ := x
  try simp only at x0 x1 x2 x3 x4 x5 x6 hd hns hML hML0 hk ho hz
  generalize (F v1.data.toList).getD 0 = q at *
  subst hk
  have tz : (sz == 4) = false := by simpa using hz
  have to : (d.tmod 2 != 0) = false := by rw [bne_eq_false_iff_eq, tmodTwo]; exact ho
  have HV := Lib.hid (show codeM ⟨5, v1, v2, v3, v4, v5, v6⟩ sz d = ([⟨2, 6, 0, 0, farH d⟩, ⟨4, 0, 6, 0, restI d⟩], farB d) by unfold codeM; rw [if_neg (fun c => c.2 ho), if_neg (by simp), if_neg (by simp), if_neg (by simp), if_pos (by simp), if_neg hz, if_pos rfl]; rfl)
  clear ho hz
  go_enter Tryz.func62, Tryz.ntmps62
  go_wp2_with fail
  go_quiet (fail)
  go_wp2_with (go_at_call 82; refine (acode1_any 0 6 d _).mono ?hk)
  case hk =>
    rintro e w2 ⟨v, rfl, hown, hB2⟩
    have HO := Lib.hid hown
    clear hown
    go_wp2_with fail
    go_ret2
    rw [HV.out]
    exact ⟨_, rfl, HO.out.base (bdrewN (form1 w _) _).size, (bdrewN (form1 w _) _).trans (hB2.mono (bdrewN (form1 w _) _).size)⟩
set_option maxRecDepth 20000 in
set_option maxHeartbeats 4000000 in
theorem acode_6_4 (hP : PrAt w p TA tc text DA dc data at_ dat mb (.slice SA sizes.length sc)) (nm : Nat) (F : List UInt8 → Option Nat) (hM : SMap w mb nm F) (hS : Cs w.heap.size w SA (sizes.map (Value.int .i64))) (hl : sizes.length = text.length)
    (n : Nat) (hn : n < text.length) (ad : Nat) (hns : (text[n]).s.size ≤ maxLen) (hk : (text[n]).k = 6) (ho : distM F (text[n]).s ad % 2 = 0) (hz : sizes[n]'(by omega) = 4) :
    Calls Tryz.prog 62 #[.pointer (some ⟨p, 0, none⟩), .int .i64 (n : Int), .int .u64 (ad : Int)] w (CodeTo (codeM text[n] (sizes[n]'(by omega)) (distM F (text[n]).s ad)) w) := by
  have hlt := lt_of_block hP.str
  have c0 : w.cell? ⟨p, 0, none⟩ = some (.slice TA text.length tc) := hP.cell 0
  have c4 : w.cell? ⟨p, 4, none⟩ = some (.map (some mb)) := hP.cell 4
  have c5 : w.cell? ⟨p, 5, none⟩ = some (.slice SA sizes.length sc) := hP.cell 5
  obtain ⟨b, o, rfl, hb, x0, x1, x2, x3, x4, x5, x6⟩ := item_at hP.tx n hn
  obtain ⟨b2, o2, rfl, hb2, y0⟩ := hS n (by simp; omega)
  simp only [List.getElem_map] at y0
  have htl := hP.tl
  have hML := fun (X : Obj) (j : Nat) => ((hM.below (form1 w X)).keep (w' := (w.alloc X).drewN j) rfl).look _ hns
  have hML0 := fun (X : Obj) => (hM.below (form1 w X)).look _ hns
  have hmb := hM.lt
  generalize hd : distM F (text[n]).s ad = d at *
  unfold distM at hd
  have tt : decide ((n : Int) < (text.length : Int)) = true := decide_eq_true (by omega)
  have hnl : (n : Int) < (text.length : Int) := by omega
  have hnl2 : (n : Int) < (sizes.length : Int) := by omega
  have hn2 : n < sizes.length := by omega
  generalize sizes[n] = sz at *
  clear hP hM hS hl
  generalize text[n] = x at *
  obtain ⟨v0, v1, v2, v3, v4, v5, v6⟩ := x
  try simp only at x0 x1 x2 x3 x4 x5 x6 hd hns hML hML0 hk ho hz
  generalize (F v1.data.toList).getD 0 = q at *
  subst hk
  subst hz
  have to : (d.tmod 2 != 0) = false := by rw [bne_eq_false_iff_eq, tmodTwo]; exact ho
  have HV := Lib.hid (show codeM ⟨6, v1, v2, v3, v4, v5, v6⟩ 4 d = ([⟨3, v3, 0, 0, d⟩], true) by unfold codeM; rw [if_neg (fun c => c.2 ho), if_neg (by simp), if_neg (by simp), if_neg (by simp), if_pos (by simp), if_pos rfl])
  clear ho
  go_enter Tryz.func62, Tryz.ntmps62
  go_wp2_with fail
  go_quiet (fail)
  go_wp2_with fail
  go_ret2
  rw [HV.out]
  exact ⟨_, rfl, own_at (by rw [size_alN]; omega) (size_alN w _ _) ⟨3, v3, 0, 0, d⟩, (bdrewN (form1 w _) _).alloc (form1 w _).size _⟩
set_option maxRecDepth 20000 in
set_option maxHeartbeats 4000000 in
theorem acode_6_8 (hP : PrAt w p TA tc text DA dc data at_ dat mb (.slice SA sizes.length sc)) (nm : Nat) (F : List UInt8 → Option Nat) (hM : SMap w mb nm F) (hS : Cs w.heap.size w SA (sizes.map (Value.int .i64))) (hl : sizes.length = text.length)
    (n : Nat) (hn : n < text.length) (ad : Nat) (hns : (text[n]).s.size ≤ maxLen) (hk : (text[n]).k = 6) (ho : distM F (text[n]).s ad % 2 = 0) (hz : sizes[n]'(by omega) ≠ 4) :
    Calls Tryz.prog 62 #[.pointer (some ⟨p, 0, none⟩), .int .i64 (n : Int), .int .u64 (ad : Int)] w (CodeTo (codeM text[n] (sizes[n]'(by omega)) (distM F (text[n]).s ad)) w) := by
  have hlt := lt_of_block hP.str
  have c0 : w.cell? ⟨p, 0, none⟩ = some (.slice TA text.length tc) := hP.cell 0
  have c4 : w.cell? ⟨p, 4, none⟩ = some (.map (some mb)) := hP.cell 4
  have c5 : w.cell? ⟨p, 5, none⟩ = some (.slice SA sizes.length sc) := hP.cell 5
  obtain ⟨b, o, rfl, hb, x0, x1, x2, x3, x4, x5, x6⟩ := item_at hP.tx n hn
  obtain ⟨b2, o2, rfl, hb2, y0⟩ := hS n (by simp; omega)
  simp only [List.getElem_map] at y0
  have htl := hP.tl
  have hML := fun (X : Obj) (j : Nat) => ((hM.below (form1 w X)).keep (w' := (w.alloc X).drewN j) rfl).look _ hns
  have hML0 := fun (X : Obj) => (hM.below (form1 w X)).look _ hns
  have hmb := hM.lt
  generalize hd : distM F (text[n]).s ad = d at *
  unfold distM at hd
  have tt : decide ((n : Int) < (text.length : Int)) = true := decide_eq_true (by omega)
  have hnl : (n : Int) < (text.length : Int) := by omega
  have hnl2 : (n : Int) < (sizes.length : Int) := by omega
  have hn2 : n < sizes.length := by omega
  generalize sizes[n] = sz at *
  clear hP hM hS hl
  generalize text[n] = x at *
  obtain ⟨v0, v1, v2, v3, v4, v5, v6⟩ := x
  try simp only at x0 x1 x2 x3 x4 x5 x6 hd hns hML hML0 hk ho hz
  generalize (F v1.data.toList).getD 0 = q at *
  subst hk
  have tz : (sz == 4) = false := by simpa using hz
  have to : (d.tmod 2 != 0) = false := by rw [bne_eq_false_iff_eq, tmodTwo]; exact ho
  have HV := Lib.hid (show codeM ⟨6, v1, v2, v3, v4, v5, v6⟩ sz d = ([⟨2, v3, 0, 0, farH d⟩, ⟨4, v3, v3, 0, restI d⟩], farB d) by unfold codeM; rw [if_neg (fun c => c.2 ho), if_neg (by simp), if_neg (by simp), if_neg (by simp), if_pos (by simp), if_neg hz, if_neg (by simp)]; rfl)
  clear ho hz
  go_enter Tryz.func62, Tryz.ntmps62
  go_wp2_with fail
  go_quiet (fail)
  go_wp2_with (go_at_call 82; refine (acode1_any v3 v3 d _).mono ?hk)
  case hk =>
    rintro e w2 ⟨v, rfl, hown, hB2⟩
    have HO := Lib.hid hown
    clear hown
    go_wp2_with fail
    go_ret2
    rw [HV.out]
    exact ⟨_, rfl, HO.out.base (bdrewN (form1 w _) _).size, (bdrewN (form1 w _) _).trans (hB2.mono (bdrewN (form1 w _) _).size)⟩
set_option maxRecDepth 20000 in
set_option maxHeartbeats 4000000 in
theorem acode_x (hP : PrAt w p TA tc text DA dc data at_ dat mb (.slice SA sizes.length sc)) (nm : Nat) (F : List UInt8 → Option Nat) (hM : SMap w mb nm F) (hS : Cs w.heap.size w SA (sizes.map (Value.int .i64))) (hl : sizes.length = text.length)
    (n : Nat) (hn : n < text.length) (ad : Nat) (hns : (text[n]).s.size ≤ maxLen) (hk : (text[n]).k ≠ 2 ∧ (text[n]).k ≠ 3 ∧ (text[n]).k ≠ 4 ∧ (text[n]).k ≠ 5 ∧ (text[n]).k ≠ 6 ∧ (text[n]).k ≠ 7) :
    Calls Tryz.prog 62 #[.pointer (some ⟨p, 0, none⟩), .int .i64 (n : Int), .int .u64 (ad : Int)] w (CodeTo (codeM text[n] (sizes[n]'(by omega)) (distM F (text[n]).s ad)) w) := by
  have hlt := lt_of_block hP.str
  have c0 : w.cell? ⟨p, 0, none⟩ = some (.slice TA text.length tc) := hP.cell 0
  have c4 : w.cell? ⟨p, 4, none⟩ = some (.map (some mb)) := hP.cell 4
  have c5 : w.cell? ⟨p, 5, none⟩ = some (.slice SA sizes.length sc) := hP.cell 5
  obtain ⟨b, o, rfl, hb, x0, x1, x2, x3, x4, x5, x6⟩ := item_at hP.tx n hn
  obtain ⟨b2, o2, rfl, hb2, y0⟩ := hS n (by simp; omega)
  simp only [List.getElem_map] at y0
  have htl := hP.tl
  have hML := fun (X : Obj) (j : Nat) => ((hM.below (form1 w X)).keep (w' := (w.alloc X).drewN j) rfl).look _ hns
  have hML0 := fun (X : Obj) => (hM.below (form1 w X)).look _ hns
  have hmb := hM.lt
  generalize hd : distM F (text[n]).s ad = d at *
  unfold distM at hd
  have tt : decide ((n : Int) < (text.length : Int)) = true := decide_eq_true (by omega)
  have hnl : (n : Int) < (text.length : Int) := by omega
  have hnl2 : (n : Int) < (sizes.length : Int) := by omega
  have hn2 : n < sizes.length := by omega
  generalize sizes[n] = sz at *
  clear hP hM hS hl
  generalize text[n] = x at *
  obtain ⟨v0, v1, v2, v3, v4, v5, v6⟩ := x
  try simp only at x0 x1 x2 x3 x4 x5 x6 hd hns hML hML0 hk
  generalize (F v1.data.toList).getD 0 = q at *
  obtain ⟨h2, h3, h4, h5, h6, h7⟩ := hk
  have k2 : (v0 == 2) = false := by simpa using h2
  have k3 : (v0 == 3) = false := by simpa using h3
  have k4 : (v0 == 4) = false := by simpa using h4
  have k5 : (v0 == 5) = false := by simpa using h5
  have k6 : (v0 == 6) = false := by simpa using h6
  have k7 : (v0 == 7) = false := by simpa using h7
  have HV := Lib.hid (show codeM ⟨v0, v1, v2, v3, v4, v5, v6⟩ sz d = ([], true) by unfold codeM; rw [if_neg (fun c => by rcases c.1 with c | c | c; exact h5 c; exact h6 c; exact h7 c), if_neg h2, if_neg h3, if_neg h4, if_neg (fun c => by rcases c with c | c; exact h5 c; exact h6 c), if_neg h7])
  clear h2 h3 h4 h5 h6 h7
  go_enter Tryz.func62, Tryz.ntmps62
  go_wp2_with fail
  go_quiet (fail)
  go_wp2_with fail
  go_ret2
  rw [HV.out]
  exact ⟨_, rfl, OwnI.nil _ _, bdrewN (form1 w _) _⟩
set_option maxRecDepth 20000 in
set_option maxHeartbeats 4000000 in
theorem acode_7_4 (hP : PrAt w p TA tc text DA dc data at_ dat mb (.slice SA sizes.length sc)) (nm : Nat) (F : List UInt8 → Option Nat) (hM : SMap w mb nm F) (hS : Cs w.heap.size w SA (sizes.map (Value.int .i64))) (hl : sizes.length = text.length)
    (n : Nat) (hn : n < text.length) (ad : Nat) (hns : (text[n]).s.size ≤ maxLen) (hk : (text[n]).k = 7) (ho : distM F (text[n]).s ad % 2 = 0) (hz : sizes[n]'(by omega) = 4) :
    Calls Tryz.prog 62 #[.pointer (some ⟨p, 0, none⟩), .int .i64 (n : Int), .int .u64 (ad : Int)] w (CodeTo (codeM text[n] (sizes[n]'(by omega)) (distM F (text[n]).s ad)) w) := by
  have hlt := lt_of_block hP.str
  have c0 : w.cell? ⟨p, 0, none⟩ = some (.slice TA text.length tc) := hP.cell 0
  have c4 : w.cell? ⟨p, 4, none⟩ = some (.map (some mb)) := hP.cell 4
  have c5 : w.cell? ⟨p, 5, none⟩ = some (.slice SA sizes.length sc) := hP.cell 5
  obtain ⟨b, o, rfl, hb, x0, x1, x2, x3, x4, x5, x6⟩ := item_at hP.tx n hn
  obtain ⟨b2, o2, rfl, hb2, y0⟩ := hS n (by simp; omega)
  simp only [List.getElem_map] at y0
  have htl := hP.tl
  have hML := fun (X : Obj) (j : Nat) => ((hM.below (form1 w X)).keep (w' := (w.alloc X).drewN j) rfl).look _ hns
  have hML0 := fun (X : Obj) => (hM.below (form1 w X)).look _ hns
  have hmb := hM.lt
  generalize hd : distM F (text[n]).s ad = d at *
  unfold distM at hd
  have tt : decide ((n : Int) < (text.length : Int)) = true := decide_eq_true (by omega)
  have hnl : (n : Int) < (text.length : Int) := by omega
  have hnl2 : (n : Int) < (sizes.length : Int) := by omega
  have hn2 : n < sizes.length := by omega
  generalize sizes[n] = sz at *
  clear hP hM hS hl
  generalize text[n] = x at *
  obtain ⟨v0, v1, v2, v3, v4, v5, v6⟩ := x
  try simp only at x0 x1 x2 x3 x4 x5 x6 hd hns hML hML0 hk ho hz
  generalize (F v1.data.toList).getD 0 = q at *
  subst hk
  subst hz
  have to : (d.tmod 2 != 0) = false := by rw [bne_eq_false_iff_eq, tmodTwo]; exact ho
  have HV := Lib.hid (show codeM ⟨7, v1, v2, v3, v4, v5, v6⟩ 4 d = ([⟨v2, v3, v4, v5, d⟩], true) by unfold codeM; rw [if_neg (fun c => c.2 ho), if_neg (by simp), if_neg (by simp), if_neg (by simp), if_neg (by simp), if_pos rfl, if_pos rfl])
  clear ho
  go_enter Tryz.func62, Tryz.ntmps62
  go_wp2_with fail
  go_quiet (fail)
  go_wp2_with fail
  go_ret2
  rw [HV.out]
  exact ⟨_, rfl, own_at (by rw [size_alN2]; omega) (size_alN2 w _ _ _) ⟨v2, v3, v4, v5, d⟩, belowN2 w _ _ _ _⟩
set_option maxRecDepth 20000 in
set_option maxHeartbeats 4000000 in
theorem acode_7_8 (hP : PrAt w p TA tc text DA dc data at_ dat mb (.slice SA sizes.length sc)) (nm : Nat) (F : List UInt8 → Option Nat) (hM : SMap w mb nm F) (hS : Cs w.heap.size w SA (sizes.map (Value.int .i64))) (hl : sizes.length = text.length)
    (n : Nat) (hn : n < text.length) (ad : Nat) (hns : (text[n]).s.size ≤ maxLen) (hk : (text[n]).k = 7) (ho : distM F (text[n]).s ad % 2 = 0) (hz : sizes[n]'(by omega) = 8) (hop : 5 ≤ (text[n]).op ∧ (text[n]).op ≤ 10) :
    Calls Tryz.prog 62 #[.pointer (some ⟨p, 0, none⟩), .int .i64 (n : Int), .int .u64 (ad : Int)] w (CodeTo (codeM text[n] (sizes[n]'(by omega)) (distM F (text[n]).s ad)) w) := by
  have hlt := lt_of_block hP.str
  have c0 : w.cell? ⟨p, 0, none⟩ = some (.slice TA text.length tc) := hP.cell 0
  have c4 : w.cell? ⟨p, 4, none⟩ = some (.map (some mb)) := hP.cell 4
  have c5 : w.cell? ⟨p, 5, none⟩ = some (.slice SA sizes.length sc) := hP.cell 5
  obtain ⟨b, o, rfl, hb, x0, x1, x2, x3, x4, x5, x6⟩ := item_at hP.tx n hn
  obtain ⟨b2, o2, rfl, hb2, y0⟩ := hS n (by simp; omega)
  simp only [List.getElem_map] at y0
  have htl := hP.tl
  have hML := fun (X : Obj) (j : Nat) => ((hM.below (form1 w X)).keep (w' := (w.alloc X).drewN j) rfl).look _ hns
  have hML0 := fun (X : Obj) => (hM.below (form1 w X)).look _ hns
  have hmb := hM.lt
  generalize hd : distM F (text[n]).s ad = d at *
  unfold distM at hd
  have tt : decide ((n : Int) < (text.length : Int)) = true := decide_eq_true (by omega)
  have hnl : (n : Int) < (text.length : Int) := by omega
  have hnl2 : (n : Int) < (sizes.length : Int) := by omega
  have hn2 : n < sizes.length := by omega
  generalize sizes[n] = sz at *
  clear hP hM hS hl
  generalize text[n] = x at *
  obtain ⟨v0, v1, v2, v3, v4, v5, v6⟩ := x
  try simp only at x0 x1 x2 x3 x4 x5 x6 hd hns hML hML0 hk ho hz hop
  generalize (F v1.data.toList).getD 0 = q at *
  subst hk
  subst hz
  have to : (d.tmod 2 != 0) = false := by rw [bne_eq_false_iff_eq, tmodTwo]; exact ho
  have HV := Lib.hid (show codeM ⟨7, v1, v2, v3, v4, v5, v6⟩ 8 d = ([⟨turnM v2, v3, v4, v5, 8⟩, ⟨3, 0, 0, 0, wrap64 (d - 4)⟩], true) by unfold codeM; rw [if_neg (fun c => c.2 ho), if_neg (by simp), if_neg (by simp), if_neg (by simp), if_neg (by simp), if_pos rfl, if_neg (by simp), if_pos rfl])
  clear ho
  have HA := Lib.hid (fun W => aturned_any v2 hop W)
  generalize turnM v2 = tn at *
  clear hop
  go_enter Tryz.func62, Tryz.ntmps62
  go_wp2_with fail
  go_quiet (fail)
  go_wp2_with fail
  go_region_law (first | (go_simp; go_at_call 86; refine (HA.out _).mono ?_; rintro e w' ⟨rfl, rfl⟩))
  all_goals
    go_wp2_with fail
    go_ret2
    rw [HV.out]
    exact ⟨_, rfl, (own_at2 (by rw [size_alN2]; omega) (size_alN2 w _ _ _) ⟨tn, v3, v4, v5, 8⟩ ⟨3, 0, 0, 0, wrap64 (d - 4)⟩).below (Below.refl _ _).drew, (belowN2 w _ _ _ _).drew⟩
set_option maxRecDepth 20000 in
set_option maxHeartbeats 4000000 in
theorem acode_7_12 (hP : PrAt w p TA tc text DA dc data at_ dat mb (.slice SA sizes.length sc)) (nm : Nat) (F : List UInt8 → Option Nat) (hM : SMap w mb nm F) (hS : Cs w.heap.size w SA (sizes.map (Value.int .i64))) (hl : sizes.length = text.length)
    (n : Nat) (hn : n < text.length) (ad : Nat) (hns : (text[n]).s.size ≤ maxLen) (hk : (text[n]).k = 7) (ho : distM F (text[n]).s ad % 2 = 0) (hz : sizes[n]'(by omega) ≠ 4) (hz8 : sizes[n]'(by omega) ≠ 8) (hop : 5 ≤ (text[n]).op ∧ (text[n]).op ≤ 10) :
    Calls Tryz.prog 62 #[.pointer (some ⟨p, 0, none⟩), .int .i64 (n : Int), .int .u64 (ad : Int)] w (CodeTo (codeM text[n] (sizes[n]'(by omega)) (distM F (text[n]).s ad)) w) := by
  have hlt := lt_of_block hP.str
  have c0 : w.cell? ⟨p, 0, none⟩ = some (.slice TA text.length tc) := hP.cell 0
  have c4 : w.cell? ⟨p, 4, none⟩ = some (.map (some mb)) := hP.cell 4
  have c5 : w.cell? ⟨p, 5, none⟩ = some (.slice SA sizes.length sc) := hP.cell 5
  obtain ⟨b, o, rfl, hb, x0, x1, x2, x3, x4, x5, x6⟩ := item_at hP.tx n hn
  obtain ⟨b2, o2, rfl, hb2, y0⟩ := hS n (by simp; omega)
  simp only [List.getElem_map] at y0
  have htl := hP.tl
  have hML := fun (X : Obj) (j : Nat) => ((hM.below (form1 w X)).keep (w' := (w.alloc X).drewN j) rfl).look _ hns
  have hML0 := fun (X : Obj) => (hM.below (form1 w X)).look _ hns
  have hmb := hM.lt
  generalize hd : distM F (text[n]).s ad = d at *
  unfold distM at hd
  have tt : decide ((n : Int) < (text.length : Int)) = true := decide_eq_true (by omega)
  have hnl : (n : Int) < (text.length : Int) := by omega
  have hnl2 : (n : Int) < (sizes.length : Int) := by omega
  have hn2 : n < sizes.length := by omega
  generalize sizes[n] = sz at *
  clear hP hM hS hl
  generalize text[n] = x at *
  obtain ⟨v0, v1, v2, v3, v4, v5, v6⟩ := x
  try simp only at x0 x1 x2 x3 x4 x5 x6 hd hns hML hML0 hk ho hz hz8 hop
  generalize (F v1.data.toList).getD 0 = q at *
  subst hk
  have tz : (sz == 4) = false := by simpa using hz
  have tz8 : (sz == 8) = false := by simpa using hz8
  have to : (d.tmod 2 != 0) = false := by rw [bne_eq_false_iff_eq, tmodTwo]; exact ho
  have HV := Lib.hid (show codeM ⟨7, v1, v2, v3, v4, v5, v6⟩ sz d = (⟨turnM v2, v3, v4, v5, sz⟩ :: [⟨2, 6, 0, 0, farH (wrap64 (d - 4))⟩, ⟨4, 0, 6, 0, restI (wrap64 (d - 4))⟩], farB (wrap64 (d - 4))) by unfold codeM; rw [if_neg (fun c => c.2 ho), if_neg (by simp), if_neg (by simp), if_neg (by simp), if_neg (by simp), if_pos rfl, if_neg hz, if_neg hz8]; rfl)
  clear ho hz hz8
  have HA := Lib.hid (fun W => aturned_any v2 hop W)
  generalize turnM v2 = tn at *
  clear hop
  go_enter Tryz.func62, Tryz.ntmps62
  go_wp2_with fail
  go_quiet (fail)
  go_wp2_with fail
  go_region_law (first | (go_simp; go_at_call 86; refine (HA.out _).mono ?_; rintro e w' ⟨rfl, rfl⟩))
  all_goals
    go_wp2_with fail
    refine Calls.mono (acode1_any 0 6 _ _) ?_
    rintro e w2 ⟨v, rfl, hown, hB2⟩
    have hB1 := (belowN1 w _ _ _).drew.trans (hB2.mono (belowN1 w _ _ _).drew.size)
    have hY := (hB2.block (w.heap.size + 1) (show w.heap.size + 1 < (World.alloc _ _).heap.size by rw [size_alN2]; omega)).trans (blockN2 w _ _ _)
    have hs2 : w.heap.size + 1 < w2.heap.size := lt_of_block hY
    obtain ⟨A, c, rfl, hc⟩ := hown.form
    have q0 : w2.cell? ⟨w.heap.size + 1, 0, none⟩ = some (.int .i64 tn) := (obj_cell hY 0).trans rfl
    have q1 : w2.cell? ⟨w.heap.size + 1, 1, none⟩ = some (.int .i64 v3) := (obj_cell hY 1).trans rfl
    have q2 : w2.cell? ⟨w.heap.size + 1, 2, none⟩ = some (.int .i64 v4) := (obj_cell hY 2).trans rfl
    have q3 : w2.cell? ⟨w.heap.size + 1, 3, none⟩ = some (.int .i64 v5) := (obj_cell hY 3).trans rfl
    have q4 : w2.cell? ⟨w.heap.size + 1, 4, none⟩ = some (.int .i64 sz) := (obj_cell hY 4).trans rfl
    have HC := Lib.hid (And.intro hc hB1)
    clear hown hY hc hB1 hB2
    go_wp2_with (at_builtin; refine wpList_appI _ rfl _ _ rfl w.heap.size _ [⟨tn, v3, v4, v5, sz⟩] rfl (own_at (by omega) rfl ⟨tn, v3, v4, v5, sz⟩) _ A 2 c [⟨2, 6, 0, 0, farH (wrap64 (d - 4))⟩, ⟨4, 0, 6, 0, restI (wrap64 (d - 4))⟩] rfl rfl (HC.out.1.below (form1 w2 _)) (by simp) (by rw [World.size_alloc]; omega) ?_; intro v' w3 hown3 hB3 hK3)
    have HO := Lib.hid (And.intro hown3 (hB3 w (HC.out.2.alloc HC.out.2.size _)))
    clear hown3 hB3 hK3
    go_wp2_with fail
    go_ret2
    rw [HV.out]
    exact ⟨_, rfl, HO.out.1, HO.out.2⟩
theorem acode_any (hP : PrAt w p TA tc text DA dc data at_ dat mb (.slice SA sizes.length sc)) (nm : Nat) (F : List UInt8 → Option Nat) (hM : SMap w mb nm F) (hS : Cs w.heap.size w SA (sizes.map (Value.int .i64))) (hl : sizes.length = text.length)
    (n : Nat) (hn : n < text.length) (ad : Nat) (hns : (text[n]).s.size ≤ maxLen) (hT : TzTab w) (hr : -9223372036854775808 ≤ (text[n]).n ∧ (text[n]).n < 9223372036854775808) (hop : (text[n]).k = 7 → 5 ≤ (text[n]).op ∧ (text[n]).op ≤ 10) :
    Calls Tryz.prog 62 #[.pointer (some ⟨p, 0, none⟩), .int .i64 (n : Int), .int .u64 (ad : Int)] w (CodeTo (codeM text[n] (sizes[n]'(by omega)) (distM F (text[n]).s ad)) w) := by
  by_cases h2 : (text[n]).k = 2
  · exact acode_2 w p TA tc text DA dc data at_ dat mb SA sc sizes hP nm F hM hS hl n hn ad hns h2
  · by_cases h3 : (text[n]).k = 3
    · exact acode_3 w p TA tc text DA dc data at_ dat mb SA sc sizes hP nm F hM hS hl n hn ad hns h3 hT hr
    · by_cases h4 : (text[n]).k = 4
      · exact acode_4 w p TA tc text DA dc data at_ dat mb SA sc sizes hP nm F hM hS hl n hn ad hns h4
      · by_cases h5 : (text[n]).k = 5
        · by_cases ho : distM F (text[n]).s ad % 2 = 0
          · by_cases hz : sizes[n]'(by omega) = 4
            · exact acode_5_4 w p TA tc text DA dc data at_ dat mb SA sc sizes hP nm F hM hS hl n hn ad hns h5 ho hz
            · exact acode_5_8 w p TA tc text DA dc data at_ dat mb SA sc sizes hP nm F hM hS hl n hn ad hns h5 ho hz
          · exact acode_odd5 w p TA tc text DA dc data at_ dat mb SA sc sizes hP nm F hM hS hl n hn ad hns h5 ho
        · by_cases h6 : (text[n]).k = 6
          · by_cases ho : distM F (text[n]).s ad % 2 = 0
            · by_cases hz : sizes[n]'(by omega) = 4
              · exact acode_6_4 w p TA tc text DA dc data at_ dat mb SA sc sizes hP nm F hM hS hl n hn ad hns h6 ho hz
              · exact acode_6_8 w p TA tc text DA dc data at_ dat mb SA sc sizes hP nm F hM hS hl n hn ad hns h6 ho hz
            · exact acode_odd6 w p TA tc text DA dc data at_ dat mb SA sc sizes hP nm F hM hS hl n hn ad hns h6 ho
          · by_cases h7 : (text[n]).k = 7
            · by_cases ho : distM F (text[n]).s ad % 2 = 0
              · by_cases hz : sizes[n]'(by omega) = 4
                · exact acode_7_4 w p TA tc text DA dc data at_ dat mb SA sc sizes hP nm F hM hS hl n hn ad hns h7 ho hz
                · by_cases hz8 : sizes[n]'(by omega) = 8
                  · exact acode_7_8 w p TA tc text DA dc data at_ dat mb SA sc sizes hP nm F hM hS hl n hn ad hns h7 ho hz8 (hop h7)
                  · exact acode_7_12 w p TA tc text DA dc data at_ dat mb SA sc sizes hP nm F hM hS hl n hn ad hns h7 ho hz hz8 (hop h7)
              · exact acode_odd7 w p TA tc text DA dc data at_ dat mb SA sc sizes hP nm F hM hS hl n hn ad hns h7 ho
            · exact acode_x w p TA tc text DA dc data at_ dat mb SA sc sizes hP nm F hM hS hl n hn ad hns ⟨h2, h3, h4, h5, h6, h7⟩
end
end Go.Proofs

/- patinaplain.Instrs of the same instructions. -/
namespace Go.Proofs
open Go Go.RowKit Go.Pat
/-- an instruction's cells where they lie. -/
theorem ins_at {B : Nat} {w : World} {A : Option Addr} {l : List In} (h : Cs B w A (icells l)) (k : Nat) (hk : k < l.length) :
    ∃ b o, A = some ⟨b, o, none⟩ ∧ b < B ∧ w.cell? ⟨b, o + k * 5, none⟩ = some (.int .i64 l[k].op) ∧ w.cell? ⟨b, o + k * 5 + 1, none⟩ = some (.int .i64 l[k].rd) ∧ w.cell? ⟨b, o + k * 5 + 2, none⟩ = some (.int .i64 l[k].a) ∧ w.cell? ⟨b, o + k * 5 + 3, none⟩ = some (.int .i64 l[k].b) ∧ w.cell? ⟨b, o + k * 5 + 4, none⟩ = some (.int .i64 l[k].n) := by
  have hlen := icells_length l
  have gt : ∀ j, j < 5 → ∃ b o, A = some ⟨b, o, none⟩ ∧ b < B ∧ w.cell? ⟨b, o + (k * 5 + j), none⟩ = (l[k].cells)[j]? := fun j hj => by
    obtain ⟨b, o, e, hb, hx⟩ := h (k * 5 + j) (by omega)
    refine ⟨b, o, e, hb, ?_⟩
    rw [hx, ← icells_get l k hk j hj, List.getElem?_eq_getElem (by omega)]
  obtain ⟨b, o, rfl, hb, g0⟩ := gt 0 (by omega)
  obtain ⟨_, _, e1, _, g1⟩ := gt 1 (by omega)
  obtain ⟨_, _, e2, _, g2⟩ := gt 2 (by omega)
  obtain ⟨_, _, e3, _, g3⟩ := gt 3 (by omega)
  obtain ⟨_, _, e4, _, g4⟩ := gt 4 (by omega)
  cases e1; cases e2; cases e3; cases e4
  exact ⟨b, o, rfl, hb, g0, g1, g2, g3, g4⟩
end Go.Proofs

/- (*program).bytes: the text's bytes. -/
namespace Go.Pat
open Go Go.RowKit Go.Proofs
theorem le4_wr (z : Nat) : le 4 (wrN (z : Int)) = le 4 z := by
  have key : ∀ i, i < 4 → UInt8.ofNat (wrN (z : Int) / 256 ^ i) = UInt8.ofNat (z / 256 ^ i) := by
    intro i hi
    apply UInt8.toNat_inj.1
    rw [UInt8.toNat_ofNat', UInt8.toNat_ofNat']
    have hw : wrN (z : Int) = z % 18446744073709551616 := by unfold wrN; omega
    rw [hw]
    rcases (show i = 0 ∨ i = 1 ∨ i = 2 ∨ i = 3 by omega) with rfl | rfl | rfl | rfl <;> simp only [Nat.reducePow] <;> omega
  unfold le
  apply List.map_congr_left
  intro i hi
  exact key i (List.mem_range.1 hi)
theorem insB_length (l : List In) : (insB l).length = 4 * l.length := by
  induction l with
  | nil => rfl
  | cons i r ih => simp [insB, le_length, ih]; omega
theorem insB_take (l : List In) (j : Nat) (hj : j < l.length) : insB (l.take (j + 1)) = insB (l.take j) ++ le 4 (encZ l[j].op l[j].rd l[j].a l[j].b l[j].n) := by
  rw [List.take_add_one, List.getElem?_eq_getElem hj, insB_append]
  simp [insB]
theorem bytM_drop (F : Names) (l : List (It × Int)) (k : Nat) (hk : k < l.length) (a : Nat) (out : List UInt8) :
    bytM F k a (l.drop k) out = if (codeM l[k].1 l[k].2 (distM F l[k].1.s a)).2 then bytM F (k + 1) (wrN ((a : Int) + l[k].2)) (l.drop (k + 1)) (out ++ (insB (codeM l[k].1 l[k].2 (distM F l[k].1.s a)).1 ++ rawM l[k].1)) else .inl k := by
  rw [List.drop_eq_getElem_cons hk]; rfl
theorem code_len (x : It) (s d : Int) : (codeM x s d).1.length ≤ 12 := by
  unfold codeM
  repeat' split
  all_goals first
    | (simp; done)
    | (unfold jumpM; simp; done)
    | exact liM_len 6 _ _
theorem raw_len (x : It) (h : x.k = 9 → 0 ≤ x.n ∧ x.n ≤ 1048576) : (rawM x).length ≤ 1048576 := by
  unfold rawM
  by_cases h8 : x.k = 8
  · rw [if_pos h8, le_length]; decide
  · rw [if_neg h8]
    by_cases h9 : x.k = 9
    · rw [if_pos h9, List.length_replicate]
      have := h h9
      omega
    · rw [if_neg h9]; simp
end Go.Pat
namespace Go.Proofs
open Go Go.RowKit Go.Pat
theorem form1b {w w2 : World} (h : Below w.heap.size w w2) (o : Obj) : Below w.heap.size w2 (w2.alloc o) := (Below.refl _ _).alloc h.size o
section
variable (B : Nat) (w : World) (p : Nat) (TA : Option Addr) (tc : Nat) (text : List It) (DA : Option Addr) (dc : Nat) (data : List It) (at_ dat mb nm : Nat) (F : Names) (sv : Value) (S : List Int)
def BytesTo (R : Nat ⊕ List UInt8) (e : Ending) (w' : World) : Prop :=
  Below w.heap.size w w' ∧ match R with
  | .inl n => e = .returned (.tuple #[.slice none 0 0, .int .i64 52, .int .i64 (n : Int)])
  | .inr l => ∃ v, e = .returned (.tuple #[v, .int .i64 0, .int .i64 0]) ∧ OwnB w' w.heap.size v l
set_option maxRecDepth 20000 in
set_option maxHeartbeats 8000000 in
theorem abytes_any (hP : Pm B w p TA tc text DA dc data at_ dat mb nm F sv S) (hl : S.length = text.length) (hns : ∀ x ∈ text, x.s.size ≤ maxLen) (hni : ∀ x ∈ text, -9223372036854775808 ≤ x.n ∧ x.n < 9223372036854775808)
    (h7 : ∀ x ∈ text, x.k = 7 → 5 ≤ x.op ∧ x.op ≤ 10) (h9 : ∀ x ∈ text, x.k = 9 → 0 ≤ x.n ∧ x.n ≤ 1048576) (hat : at_ < 18446744073709551616) :
    Calls Tryz.prog 30 #[.pointer (some ⟨p, 0, none⟩)] w (BytesTo w (bytM F 0 at_ (text.zip S) [])) := by
  obtain ⟨R, hR⟩ : ∃ R, bytM F 0 at_ (text.zip S) [] = R := ⟨_, rfl⟩
  rw [hR]
  have HP1 := Lib.hid (show ∀ n W, R = .inl n → Below w.heap.size w W → BytesTo w R (.returned (.tuple #[.slice none 0 0, .int .i64 52, .int .i64 (n : Int)])) W from fun n W h1 h2 => ⟨h2, by simp only [h1]⟩)
  have HP2 := Lib.hid (show ∀ l v W, R = .inr l → Below w.heap.size w W → OwnB W w.heap.size v l → BytesTo w R (.returned (.tuple #[v, .int .i64 0, .int .i64 0])) W from fun l v W h1 h2 h3 => ⟨h2, by simp only [h1]; exact ⟨v, rfl, h3⟩⟩)
  generalize BytesTo w R = PP at *
  obtain ⟨A, c, rfl, hA⟩ := hP.szs.form
  have c0 : w.cell? ⟨p, 0, none⟩ = some (.slice TA text.length tc) := hP.pr.cell 0
  have c2 : w.cell? ⟨p, 2, none⟩ = some (.int .u64 (at_ : Int)) := hP.pr.cell 2
  have htl := hP.pr.tl
  have hp0 := hP.lt
  have HR := Lib.hid hR
  have HP0 := Lib.hid hP
  have HlS := Lib.hid hl
  have HN := Lib.hid (And.intro hns (And.intro hni (And.intro h7 h9)))
  clear hR hP hl hns hni h7 h9 hA
  go_enter Tryz.func30, Tryz.ntmps30
  go_wp2_with fail
  go_loopw [5, 6, 24] (fun q a i wr => ∃ (k : Nat) (out : List UInt8) (ad : Nat), k ≤ text.length ∧ i = .int .i64 k ∧ a = .int .u64 (ad : Int) ∧ ad < 18446744073709551616 ∧ bytM F k ad ((text.zip S).drop k) out = R ∧ out.length ≤ k * 1048700 ∧ OwnB wr w.heap.size q out ∧ Below w.heap.size w wr) (fun _ _ i _ => text.length - (intOf i).toNat)
  case atStart => exact ⟨0, [], at_, Nat.zero_le _, rfl, rfl, hat, HR.out, Nat.zero_le _, OwnB.nil _ _, Below.refl _ _⟩
  case round =>
    obtain ⟨k, out, ad, hk, rfl, rfl, had, hd, hol, hown, hB⟩ := hrel
    obtain ⟨Aq, cq, rfl, -⟩ := hown.form
    have hPr := HP0.out.keep hB
    by_cases hlt : k < text.length
    · have t1 : decide ((k : Int) < (text.length : Int)) = true := decide_eq_true (by omega)
      have hku : (k : Int) < (text.length : Int) := by omega
      obtain ⟨b, o, e0, hb, x0, x1, x2, x3, x4, x5, x6⟩ := item_at hPr.tx2 k hlt
      cases e0
      have hkS : k < S.length := by have := HlS.out; omega
      have hz : k < (text.zip S).length := by have := HlS.out; simp; omega
      rw [bytM_drop F (text.zip S) k hz ad out] at hd
      simp only [List.getElem_zip] at hd
      have hmem := List.getElem_mem hlt
      have HC0 : ∀ W, Pm B W p (some ⟨b, o, none⟩) tc text DA dc data at_ dat mb nm F (.slice A S.length c) S → Calls Tryz.prog 62 #[.pointer (some ⟨p, 0, none⟩), .int .i64 (k : Int), .int .u64 (ad : Int)] W (CodeTo (codeM text[k] S[k] (distM F (text[k]).s ad)) W) := fun W hW => by
        obtain ⟨A2, c3, e2, hcs⟩ := hW.szs.form
        cases e2
        exact acode_any W p _ tc text DA dc data at_ dat mb A c S hW.pr nm F hW.map hcs HlS.out k hlt ad (HN.out.1 _ hmem) hW.tz (HN.out.2.1 _ hmem) (HN.out.2.2.1 _ hmem)
      have HW0 : ∀ W, Calls Tryz.prog 31 #[.agg (text[k]).cs] W (RawTo (rawM text[k]) W) := fun W => araw_any text[k] (HN.out.2.2.2 _ hmem) W
      have hcl := code_len text[k] S[k] (distM F (text[k]).s ad)
      have hrl := raw_len text[k] (HN.out.2.2.2 _ hmem)
      generalize codeM text[k] S[k] (distM F (text[k]).s ad) = cm at *
      generalize rawM text[k] = rl at *
      have hcs : (text[k]).cs = #[.int .i64 (text[k]).k, .string (text[k]).s, .int .i64 (text[k]).op, .int .i64 (text[k]).rd, .int .i64 (text[k]).a, .int .i64 (text[k]).b, .int .i64 (text[k]).n] := rfl
      rw [hcs] at HW0
      clear hcs hmem
      obtain ⟨b2, o2, e3, hb2, y0⟩ := hPr.size_at k hkS
      cases e3
      have HU := Lib.hid (u64_add ad S[k])
      have HUl := Lib.hid (wrN_lt ((ad : Int) + S[k]))
      generalize text[k].k = v0 at *
      generalize text[k].s = v1 at *
      generalize text[k].op = v2 at *
      generalize text[k].rd = v3 at *
      generalize text[k].a = v4 at *
      generalize text[k].b = v5 at *
      generalize text[k].n = v6 at *
      obtain ⟨ins, bb⟩ := cm
      have HC := Lib.hid (show ∀ W, Pm B W p (some ⟨b, o, none⟩) tc text DA dc data at_ dat mb nm F (.slice (some ⟨b2, o2, none⟩) S.length c) S → Calls Tryz.prog 62 #[.pointer (some ⟨p, 0, none⟩), .int .i64 (k : Int), .int .u64 (ad : Int)] W (fun e w' => ∃ v, e = .returned (.tuple #[v, .bool bb]) ∧ OwnI w' W.heap.size v ins ∧ Below W.heap.size W w') from HC0)
      have HW := Lib.hid HW0
      have hil : ins.length ≤ 12 := hcl
      clear HC0 HW0 hcl
      have hP1 := hPr.keep (form1 wr (.cells #[.int .i64 v0, .string v1, .int .i64 v2, .int .i64 v3, .int .i64 v4, .int .i64 v5, .int .i64 v6] 28))
      have hX1 := heap_alloc_new wr (.cells #[.int .i64 v0, .string v1, .int .i64 v2, .int .i64 v3, .int .i64 v4, .int .i64 v5, .int .i64 v6] 28)
      have hb1 := hB.trans (form1b hB (.cells #[.int .i64 v0, .string v1, .int .i64 v2, .int .i64 v3, .int .i64 v4, .int .i64 v5, .int .i64 v6] 28))
      have hp := hPr.lt
      have HPX := Lib.hid (And.intro hP1 (And.intro hX1 hb1))
      have hown1 := hown.alloc (.cells #[.int .i64 v0, .string v1, .int .i64 v2, .int .i64 v3, .int .i64 v4, .int .i64 v5, .int .i64 v6] 28)
      have HO1 := Lib.hid hown1
      clear hP1 hX1 hb1 hown hown1 hPr
      cases bb with
      | false =>
        simp only [Bool.false_eq_true, if_false] at hd
        have HD := Lib.hid hd
        clear hd
        go_wp2_with fail
        with_reducible refine Calls.mono (HC.out _ HPX.out.1) ?_
        rintro e w2 ⟨v, rfl, _, hB2⟩
        go_wp2_with fail
        go_ret3
        exact HP1.out k _ HD.out.symm (HPX.out.2.2.trans (hB2.mono HPX.out.2.2.size))
      | true =>
        simp only [if_true] at hd
        have HD := Lib.hid hd
        clear hd
        go_wp2_with fail
        with_reducible refine Calls.mono (HC.out _ HPX.out.1) ?_
        rintro e w2 ⟨v, rfl, hvo, hB2⟩
        obtain ⟨A1, c1, rfl, hc1⟩ := hvo.form
        have hX2 := (hB2.block wr.heap.size (by rw [World.size_alloc]; omega)).trans HPX.out.2.1
        have hown2 : OwnB w2 w.heap.size (.slice Aq out.length cq) out := HO1.out.below hB2
        have hbw2 := HPX.out.2.2.trans (hB2.mono HPX.out.2.2.size)
        have hsw : wr.heap.size < w2.heap.size := lt_of_block hX2
        have HKI := Lib.hid (show ∀ W : World, (∀ g, g < w2.heap.size → (Value.slice Aq out.length cq).ownBlock ≠ some g → W.heap[g]? = w2.heap[g]?) → OwnI W _ (.slice A1 ins.length c1) ins from fun W hK => owns_keep hvo fun g hg => by
          obtain ⟨_, cur, hc⟩ := owns_block hvo hg
          refine hK g (lt_of_block hc) fun e => ?_
          obtain ⟨_, cur2, hc2⟩ := hown2.block e
          rw [hc] at hc2
          cases hc2)
        have HKX := Lib.hid (show ∀ W : World, (∀ g, g < w2.heap.size → (Value.slice Aq out.length cq).ownBlock ≠ some g → W.heap[g]? = w2.heap[g]?) → W.heap[wr.heap.size]? = _ from fun W hK => (hK wr.heap.size hsw fun e => by
          obtain ⟨_, cur2, hc2⟩ := hown2.block e
          rw [hX2] at hc2
          cases hc2).trans hX2)
        have HO2 := Lib.hid (And.intro hown2 hbw2)
        clear hvo hX2 hown2 hbw2 hc1 hB2
        go_wp2_with fail
        go_loopw [5, 41] (fun qo i wr => ∃ (j : Nat), j ≤ ins.length ∧ i = .int .i64 j ∧ OwnB wr w.heap.size qo (out ++ insB (ins.take j)) ∧ (∀ g, g < w2.heap.size → (Value.slice Aq out.length cq).ownBlock ≠ some g → wr.heap[g]? = w2.heap[g]?) ∧ NewOr w2 (.slice Aq out.length cq) qo ∧ Below w.heap.size w wr ∧ w2.heap.size ≤ wr.heap.size) (fun _ i _ => ins.length - (intOf i).toNat)
        case atStart => exact ⟨0, Nat.zero_le _, rfl, by simpa [insB] using HO2.out.1, fun _ _ _ => rfl, fun _ h => .inl h, HO2.out.2, Nat.le_refl _⟩
        case round =>
          obtain ⟨j, hj, rfl, hown, hK, hN, hB, hS⟩ := hrel
          have hPr := HP0.out.keep hB
          by_cases hjt : j < ins.length
          · have t2 : decide ((j : Int) < (ins.length : Int)) = true := decide_eq_true (by omega)
            have hju : (j : Int) < (ins.length : Int) := by omega
            have hI := HKI.out _ hK
            obtain ⟨A5, c5, e5, hcI⟩ := hI.form
            cases e5
            obtain ⟨b3, o3, rfl, hb3, z0, z1, z2, z3, z4⟩ := ins_at hcI j hjt
            have hTk := insB_take ins j hjt
            have HE0 := (fun W hW => rvEncode_any ins[j].op ins[j].rd ins[j].a ins[j].b ins[j].n W hW)
            unfold EncV at HE0
            rw [← le4_wr] at hTk
            generalize insE ins[j].op ins[j].rd ins[j].a ins[j].b ins[j].n = er at *
            generalize encZ ins[j].op ins[j].rd ins[j].a ins[j].b ins[j].n = z at *
            generalize ins[j].op = y0 at *
            generalize ins[j].rd = y1 at *
            generalize ins[j].a = y2 at *
            generalize ins[j].b = y3 at *
            generalize ins[j].n = y4 at *
            obtain ⟨yz, hyz⟩ : ∃ yz, wrN (z : Int) = yz := ⟨_, rfl⟩
            rw [hyz] at hTk
            have wz : IntKind.u64.wrap (z : Int) = (yz : Int) := by rw [← hyz, wrN_is]
            have hyl : yz < 18446744073709551616 := by rw [← hyz]; exact wrN_lt z
            have hTk2 : out ++ insB (ins.take (j + 1)) = (out ++ insB (ins.take j)) ++ le 4 yz := by rw [hTk, List.append_assoc]
            have HE := Lib.hid HE0
            have hlo : (out ++ insB (ins.take j)).length ≤ 140737488000000 := by
              rw [List.length_append, insB_length, List.length_take]
              have : k * 1048700 ≤ 1048576 * 1048700 := Nat.mul_le_mul_right _ (by omega)
              omega
            clear hTk
            generalize out ++ insB (ins.take j) = ot at *
            have HTk := Lib.hid hTk2
            clear hTk2
            obtain ⟨Ao, co, rfl, -⟩ := hown.form
            have HO := Lib.hid (And.intro hown (And.intro hK (And.intro hN (And.intro hB (And.intro hPr.rv hlo)))))
            have hsz0 : w.heap.size ≤ wr.heap.size := hB.size
            clear hown hK hN hB HE0 hI hcI hPr hlo hyz
            go_wp2_with fail
            with_reducible refine Calls.mono (HE.out _ (HO.out.2.2.2.2.1.below (form1 _ _))) ?_
            rintro e w3 ⟨rfl, hB3⟩
            have hBx := (form1 _ _).trans (hB3.mono (form1 _ _).size)
            have HBx := Lib.hid hBx
            clear hBx hB3
            go_wp2_with fail
            refine Calls.mono (alittle_any w3 w.heap.size _ _ yz 4 (HO.out.1.below HBx.out) (Nat.le_trans hsz0 HBx.out.size) hyl (by decide) HO.out.2.2.2.2.2) ?_
            rintro e w4 ⟨v5, rfl, hown4, hB4, hK4, hN4, hS4⟩
            have HX := Lib.hid (And.intro hown4 (And.intro hB4 (And.intro hK4 (And.intro hN4 hS4))))
            clear hown4 hB4 hK4 hN4
            go_wp2_with fail
            go_roundw
            case rel =>
              have hsw3 := HBx.out.size
              refine ⟨j + 1, by omega, by go_num, ?_, ?_, ?_, ?_, by omega⟩
              · have h1 := HX.out.1
                rw [← HTk.out] at h1
                exact h1
              · intro g hg hne
                have h1 := HX.out.2.2.1 g (by omega) (fun e => by
                  rcases HO.out.2.2.1 g e with h | h
                  · exact hne h
                  · omega)
                rw [h1, HBx.out.block g (by omega)]
                exact HO.out.2.1 g hg hne
              · intro g hg
                rcases HX.out.2.2.2.1 g hg with h | h
                · exact HO.out.2.2.1 g h
                · exact .inr (by omega)
              · exact HX.out.2.1 w (HO.out.2.2.2.1.trans (HBx.out.mono hsz0))
            case measure => simp [intOf]; omega
          · have t2 : decide ((j : Int) < (ins.length : Int)) = false := decide_eq_false (by omega)
            obtain rfl : j = ins.length := by omega
            rw [List.take_length] at hown
            have hX := HKX.out _ hK
            have g0 : wr.cell? ⟨_, 0, none⟩ = some (.int .i64 v0) := (obj_cell hX 0).trans rfl
            have g1 : wr.cell? ⟨_, 1, none⟩ = some (.string v1) := (obj_cell hX 1).trans rfl
            have g2 : wr.cell? ⟨_, 2, none⟩ = some (.int .i64 v2) := (obj_cell hX 2).trans rfl
            have g3 : wr.cell? ⟨_, 3, none⟩ = some (.int .i64 v3) := (obj_cell hX 3).trans rfl
            have g4 : wr.cell? ⟨_, 4, none⟩ = some (.int .i64 v4) := (obj_cell hX 4).trans rfl
            have g5 : wr.cell? ⟨_, 5, none⟩ = some (.int .i64 v5) := (obj_cell hX 5).trans rfl
            have g6 : wr.cell? ⟨_, 6, none⟩ = some (.int .i64 v6) := (obj_cell hX 6).trans rfl
            have hxl := lt_of_block hX
            have hlo : (out ++ insB ins).length ≤ k * 1048700 + 48 := by
              rw [List.length_append, insB_length]
              omega
            have hlo2 : (out ++ insB ins ++ rl).length ≤ (k + 1) * 1048700 := by
              rw [List.length_append, Nat.add_mul]
              omega
            have hlo3 : (out ++ insB ins).length + rl.length ≤ 140737488355328 := by
              have : k * 1048700 ≤ 1048576 * 1048700 := Nat.mul_le_mul_right _ (by omega)
              omega
            rw [← List.append_assoc] at HD
            generalize out ++ insB ins = ot at *
            have HHL := Lib.hid (And.intro hlo2 hlo3)
            obtain ⟨Ao, co, rfl, -⟩ := hown.form
            have HO := Lib.hid (And.intro hown hB)
            have hsz0 : w.heap.size ≤ wr.heap.size := hB.size
            clear hown hK hN hB hX hlo hlo2 hlo3
            go_wp2_with fail
            with_reducible refine Calls.mono (HW.out _) ?_
            rintro e w6 ⟨vr, rfl, hor, hB6⟩
            obtain ⟨A6, c6, rfl, hc6⟩ := hor.form
            have hs6 := hB6.size
            have HO6 := Lib.hid (And.intro (HO.out.1.below hB6) (And.intro hc6 (HO.out.2.trans (hB6.mono hsz0))))
            clear hor hc6 hB6
            go_wp2_with (at_builtin
                         refine wpList_appB2 _ rfl _ _ rfl w.heap.size _ ot rfl HO6.out.1 _ A6 rl.length c6 rl rfl rfl HO6.out.2.1 HHL.out.2 (by omega) ?_
                         intro v7 w7 hown7 hB7 hK7 hN7 hS7
                         have hBw := hB7 w HO6.out.2.2
                         have hP7 := HP0.out.keep hBw
                         have p5 : w7.cell? ⟨p, 5, none⟩ = some (.slice (some ⟨b2, o2, none⟩) S.length c) := hP7.pr.cell 5
                         have p6 : w7.cell? ⟨b2, o2 + k, none⟩ = some (.int .i64 S[k]) := by
                           obtain ⟨b', o', e7, _, h⟩ := hP7.size_at k hkS
                           cases e7
                           exact h
                         have hpl7 := hP7.lt
                         have hkl : (k : Int) < (S.length : Int) := by omega
                         have H7 := Lib.hid (And.intro hown7 hBw)
                         generalize S[k] = sz at *
                         clear hown7 hB7 hK7 hN7 hBw hP7)
            go_roundw
            case rel => exact ⟨k + 1, ot ++ rl, _, by omega, by go_num, congrArg (Value.int .u64) HU.out, HUl.out, HD.out, HHL.out.1, H7.out.1, H7.out.2⟩
            case measure => simp [intOf]; omega
    · have t1 : decide ((k : Int) < (text.length : Int)) = false := decide_eq_false (by omega)
      obtain rfl : k = text.length := by omega
      rw [show (text.zip S).drop text.length = [] from List.drop_of_length_le (by simp; omega)] at hd
      have HD := Lib.hid (show R = .inr out from hd.symm)
      have HF := Lib.hid (And.intro hown hB)
      clear hd hown hB hPr
      go_wp2_with fail
      go_ret3
      exact HP2.out out _ _ HD.out HF.out.2 HF.out.1
end
end Go.Proofs

/- patina/asm.Assemble: bytes and labels of items. -/
namespace Go.Proofs
open Go Go.RowKit Go.Pat
theorem own_set3 {W : World} {e : TypeId} {size base n b b2 : Nat} {v : Value} {xs : List Value} (h : W.ownsRow base e size v n xs) (hb : b < base) (h2 : b2 ≤ base) (u1 u2 u3 : Value) :
    (((W.setCell ⟨b, 0, none⟩ u1).setCell ⟨b, 1, none⟩ u2).setCell ⟨b, 2, none⟩ u3).ownsRow b2 e size v n xs :=
  owns_base (owns_keep h fun g hg => by
    have hne : g ≠ b := fun e2 => by have h1 := (owns_block h hg).1; omega
    rw [Below.heap_setCell _ _ _ _ hne, Below.heap_setCell _ _ _ _ hne, Below.heap_setCell _ _ _ _ hne]) h2
theorem lit_l (w : World) (s : ByteArray) (v : Nat) : Cs (w.alloc (.cells #[.string s, .int .u64 (v : Int)] 88)).heap.size (w.alloc (.cells #[.string s, .int .u64 (v : Int)] 88)) (some ⟨w.heap.size, 0, none⟩) (lcells [(s, v)]) := fun j hj => by
  refine ⟨w.heap.size, 0, rfl, by rw [World.size_alloc]; omega, ?_⟩
  have h2 : j < 2 := by simpa [lcells] using hj
  rw [Nat.zero_add, cell_of_row _ _ j _ _ (0, 0) (heap_alloc_new w _)]
  simp [lcells]
section
variable (w : World) (TA : Option Addr) (tc : Nat) (text : List It) (DA : Option Addr) (dc : Nat) (data : List It) (at_ dat : Nat)
def zC : Value := .agg #[.slice none 0 0, .slice none 0 0, .slice none 0 0]
def AsmTo (e : Ending) (w' : World) : Prop :=
  Below w.heap.size w w' ∧ ∃ S, Fin text data at_ dat S ∧ match asmR text data at_ dat S with
    | .inl x => e = .returned (.tuple #[.agg #[.slice none 0 0, .slice none 0 0, .slice none 0 0], .int .i64 x.1, .int .i64 (x.2 : Int)])
    | .inr y => ∃ vt vd vl, e = .returned (.tuple #[.agg #[vt, vd, vl], .int .i64 0, .int .i64 0]) ∧ OwnB w' w.heap.size vt y.1 ∧ OwnB w' w.heap.size vd y.2.1 ∧ OwnL w' w.heap.size vl y.2.2
theorem code_zero {w' : World} {b : Nat} (h : w'.heap[b]? = some (.cells #[.slice none 0 0, .slice none 0 0, .slice none 0 0] 53 (0, 0))) :
    (w'.cell? ⟨b, 0, none⟩ = some (.slice none 0 0) ∧ w'.cell? ⟨b, 1, none⟩ = some (.slice none 0 0) ∧ w'.cell? ⟨b, 2, none⟩ = some (.slice none 0 0)) ∧ w'.frozen? ⟨b, 0, none⟩ = false ∧ w'.frozen? ⟨b, 1, none⟩ = false ∧ w'.frozen? ⟨b, 2, none⟩ = false :=
  ⟨⟨(obj_cell h 0).trans rfl, (obj_cell h 1).trans rfl, (obj_cell h 2).trans rfl⟩, obj_frozen h 0, obj_frozen h 1, obj_frozen h 2⟩
theorem below_set3 {B : Nat} {W W' : World} (h : Below B W W') {b : Nat} (hb : B ≤ b) (u v x : Value) : Below B W (((W'.setCell ⟨b, 0, none⟩ u).setCell ⟨b, 1, none⟩ v).setCell ⟨b, 2, none⟩ x) := ((h.setCell hb _).setCell hb _).setCell hb _
set_option maxRecDepth 20000 in
set_option maxHeartbeats 8000000 in
theorem aAsm_any (hT : Cs w.heap.size w TA (tcells text)) (hD : Cs w.heap.size w DA (tcells data)) (hns : ∀ x ∈ text ++ data, x.s.size ≤ maxLen) (hni : ∀ x ∈ text ++ data, -9223372036854775808 ≤ x.n ∧ x.n < 9223372036854775808) (htz : TzTab w) (hrv : RvRows w) (ht : text.length ≤ maxLen) (hd : data.length ≤ maxLen)
    (hat : at_ < 18446744073709551616) (hdat : dat < 18446744073709551616) :
    Calls Tryz.prog 16 #[.slice TA text.length tc, .slice DA data.length dc, .int .u64 (at_ : Int), .int .u64 (dat : Int)] w (AsmTo w text data at_ dat) := by
  have hB1 := form1 w (.cells #[.slice none 0 0, .slice none 0 0, .slice none 0 0] 53)
  have hb1 := heap_alloc_new w (.cells #[.slice none 0 0, .slice none 0 0, .slice none 0 0] 53)
  have HBg := Lib.hid (abegin_any (w.alloc (.cells #[.slice none 0 0, .slice none 0 0, .slice none 0 0] 53)) TA tc text DA dc data at_ dat ((hT.below hB1).more hB1.size) ((hD.below hB1).more hB1.size) hns (htz.below hB1) (hrv.below hB1) ht hd)
  have HNS := Lib.hid hns
  have HNI := Lib.hid hni
  have Hb1 := Lib.hid (And.intro hB1 hb1)
  clear hns hni hT hD htz hrv hB1 hb1
  cases hbm : begM text data at_ dat with
  | inl x =>
    obtain ⟨x1, x2⟩ := x
    have hx1 := begM_err hbm
    have te : (x1 != 0) = true := by simpa using hx1
    have HP := Lib.hid (show ∀ W, Below w.heap.size w W → AsmTo w text data at_ dat (.returned (.tuple #[.agg #[.slice none 0 0, .slice none 0 0, .slice none 0 0], .int .i64 x1, .int .i64 (x2 : Int)])) W from fun W hW =>
      ⟨hW, [], (fun F hF => (by rw [hbm] at hF; cases hF)), by simp only [asmR, hbm]⟩)
    generalize AsmTo w text data at_ dat = PP at *
    have HBM := Lib.hid hbm
    clear hbm hx1
    go_enter Tryz.func16, Tryz.ntmps16
    go_wp2_with fail
    refine Calls.mono HBg.out ?_
    rintro e w2 ⟨hB2, hm⟩
    simp only [HBM.out] at hm
    subst hm
    have hz := (hB2.block w.heap.size (by rw [World.size_alloc]; omega)).trans Hb1.out.2
    obtain ⟨⟨z0, z1, z2⟩, z3, z4, z5⟩ := code_zero hz
    have hzl := lt_of_block hz
    have HZ := Lib.hid (And.intro hz (Hb1.out.1.trans (hB2.mono Hb1.out.1.size)))
    clear hz hB2
    go_wp2_with fail
    exact code_ret _ _ w.heap.size _ _ _ HZ.out.1 _ _ _ _ _ _ rfl rfl rfl (HP.out _ (below_set3 HZ.out.2 (Nat.le_refl _) _ _ _))
  | inr F =>
    have hok := begM_ok hbm
    have HPe := Lib.hid (show ∀ (W : World) (S : List Int) (n : Nat), Final text data at_ dat F S → bytM (layM text data S at_ dat F) 0 at_ (text.zip S) [] = .inl n → Below w.heap.size w W → AsmTo w text data at_ dat (.returned (.tuple #[.agg #[.slice none 0 0, .slice none 0 0, .slice none 0 0], .int .i64 52, .int .i64 (n : Int)])) W from fun W S n h1 h2 h3 =>
      ⟨h3, S, (fun F2 hF => (by rw [hbm] at hF; cases hF; exact h1)), by simp only [asmR, hbm, h2]⟩)
    have HPo := Lib.hid (show ∀ (W : World) (S : List Int) (l : List UInt8) (vt vd vl : Value), Final text data at_ dat F S → bytM (layM text data S at_ dat F) 0 at_ (text.zip S) [] = .inr l → Below w.heap.size w W → OwnB W w.heap.size vt l → OwnB W w.heap.size vd (dataM data) → OwnL W w.heap.size vl (labsM (layM text data S at_ dat F) (text ++ data)) →
      AsmTo w text data at_ dat (.returned (.tuple #[.agg #[vt, vd, vl], .int .i64 0, .int .i64 0])) W from fun W S l vt vd vl h1 h2 h3 h4 h5 h6 =>
      ⟨h3, S, (fun F2 hF => (by rw [hbm] at hF; cases hF; exact h1)), by simp only [asmR, hbm, h2]; exact ⟨vt, vd, vl, rfl, h4, h5, h6⟩⟩)
    generalize AsmTo w text data at_ dat = PP at *
    have HBM := Lib.hid hbm
    have HOK := Lib.hid hok
    have hlim := hok.lim.2.2.2.2
    clear hbm hok
    go_enter Tryz.func16, Tryz.ntmps16
    go_wp2_with fail
    refine Calls.mono HBg.out ?_
    rintro e w2 ⟨hB2, hm⟩
    simp only [HBM.out] at hm
    obtain ⟨p, mb, nm, hnm, rfl, hPm⟩ := hm
    have hz := (hB2.block w.heap.size (by rw [World.size_alloc]; omega)).trans Hb1.out.2
    have hzl := lt_of_block hz
    have HZ := Lib.hid (And.intro hz (Hb1.out.1.trans (hB2.mono Hb1.out.1.size)))
    have HRx := Lib.hid (arelax_any _ w2 p TA tc text DA dc data at_ dat mb nm F hPm (by omega) HNS.out HNI.out hat hdat)
    have HPl := Lib.hid hPm.le
    clear hz hB2 hPm
    go_wp2_with fail
    with_reducible refine Calls.mono HRx.out ?_
    rintro e w3 ⟨rfl, hB3, nm2, sv, S, hFin, hP3⟩
    have hlS : S.length = text.length := by
      obtain ⟨⟨j, rfl⟩, _⟩ := hFin
      exact roundsM_length _ _ _ _ _ _
    generalize hF3 : layM text data S at_ dat F = F3 at *
    have hb1 : w.heap.size < (w.alloc (.cells #[.slice none 0 0, .slice none 0 0, .slice none 0 0] 53)).heap.size := by rw [World.size_alloc]; omega
    have hz3 := (hB3.block w.heap.size hb1).trans HZ.out.1
    have hB30 : Below w.heap.size w w3 := HZ.out.2.trans (hB3.mono (Nat.le_of_lt hb1))
    have hc3 := heap_alloc_new w3 (.cells #[.slice none 0 0, .slice none 0 0, .slice none 0 0] 53)
    have hP4 := hP3.keep (form1 w3 (.cells #[.slice none 0 0, .slice none 0 0, .slice none 0 0] 53))
    have HBy := abytes_any _ (w3.alloc (.cells #[.slice none 0 0, .slice none 0 0, .slice none 0 0] 53)) p TA tc text DA dc data at_ dat mb nm2 F3 sv S hP4 hlS (fun x hx => HNS.out x (List.mem_append_left _ hx)) (fun x hx => HNI.out x (List.mem_append_left _ hx)) (fun x hx hk => (okI_7 (itemE_ok (HOK.out.text x hx)).1 hk).1) (fun x hx hk => okI_9 (itemE_ok (HOK.out.text x hx)).1 hk) hat
    have hzl3 := lt_of_block hz3
    have HFN := Lib.hid hFin
    have HF3 := Lib.hid hF3
    have HlS := Lib.hid hlS
    have H3 := Lib.hid (And.intro hz3 (And.intro hB30 (And.intro hc3 hP3)))
    clear hB3 hz3 hB30 hc3 hP4 hFin hF3 hlS hP3
    cases hby : bytM F3 0 at_ (text.zip S) [] with
    | inl n =>
      rw [hby] at HBy
      have HBy2 := Lib.hid HBy
      have HBE := Lib.hid hby
      clear HBy hby
      go_wp2_with fail
      refine Calls.mono HBy2.out ?_
      rintro e w4 ⟨hB4, hm⟩
      simp only at hm
      subst hm
      have hc4 := (hB4.block w3.heap.size (by rw [World.size_alloc]; omega)).trans H3.out.2.2.1
      have hz4 := (hB4.block w.heap.size (by rw [World.size_alloc]; omega)).trans ((Below.heap_alloc w3 _ w.heap.size hzl3).trans H3.out.1)
      obtain ⟨⟨z0, z1, z2⟩, z3, z4, z5⟩ := code_zero hc4
      have hcl := lt_of_block hc4
      have hzl4 := lt_of_block hz4
      have hne : w.heap.size ≠ w3.heap.size := by omega
      have hz5 : ∀ v, (w4.setCell ⟨w3.heap.size, 0, none⟩ v).heap[w.heap.size]? = some (.cells #[.slice none 0 0, .slice none 0 0, .slice none 0 0] 53 (0, 0)) := fun v => (Below.heap_setCell _ _ _ _ hne).trans hz4
      obtain ⟨⟨y0, y1, y2⟩, y3, y4, y5⟩ := code_zero (hz5 (.slice none 0 0))
      have HZ5 := Lib.hid (And.intro hz5 ((H3.out.2.1.trans (((form1 w3 _).trans (hB4.mono (form1 w3 _).size)).mono (Nat.le_of_lt hzl3))).setCell (Nat.le_of_lt hzl3) (.slice none 0 0) : Below w.heap.size w (w4.setCell ⟨w3.heap.size, 0, none⟩ (.slice none 0 0))))
      clear hc4 hz4 hB4 hz5
      go_wp2_with fail
      exact code_ret _ _ w.heap.size _ _ _ (HZ5.out.1 _) _ _ _ _ _ _ rfl rfl rfl (HPe.out _ S n HFN.out (by rw [HF3.out]; exact HBE.out) (below_set3 HZ5.out.2 (Nat.le_refl _) _ _ _))
    | inr l =>
      rw [hby] at HBy
      have HBy2 := Lib.hid HBy
      have HBE := Lib.hid hby
      clear HBy hby
      go_wp2_with fail
      refine Calls.mono HBy2.out ?_
      rintro e w4 ⟨hB4, hm⟩
      simp only at hm
      obtain ⟨vt, rfl, hvt⟩ := hm
      have hc4 := (hB4.block w3.heap.size (by rw [World.size_alloc]; omega)).trans H3.out.2.2.1
      obtain ⟨⟨z0, z1, z2⟩, z3, z4, z5⟩ := code_zero hc4
      have hcl := lt_of_block hc4
      obtain ⟨At, ct, rfl, -⟩ := hvt.form
      obtain ⟨W5, hW5⟩ : ∃ W5, w4.setCell ⟨w3.heap.size, 0, none⟩ (.slice At l.length ct) = W5 := ⟨_, rfl⟩
      have hB35 : Below w3.heap.size w3 W5 := by rw [← hW5]; exact ((form1 w3 _).trans (hB4.mono (form1 w3 _).size)).setCell (Nat.le_refl _) _
      have hc5 : W5.heap[w3.heap.size]? = some (.cells #[.slice At l.length ct, .slice none 0 0, .slice none 0 0] 53 (0, 0)) := by
        rw [← hW5]
        exact obj_set hc4 0 _
      have hv5 : OwnB W5 (w3.alloc (.cells #[.slice none 0 0, .slice none 0 0, .slice none 0 0] 53)).heap.size (.slice At l.length ct) l := by
        rw [← hW5]
        exact hvt.keep fun g hg => Below.heap_setCell _ _ _ _ (fun e => by
          have h1 := (hvt.block hg).1
          have e2 : g = w3.heap.size := e
          rw [World.size_alloc] at h1
          omega)
      rw [World.size_alloc] at hv5
      have hcl5 := lt_of_block hc5
      have HV5 := Lib.hid hv5
      have HC5 := Lib.hid (And.intro hc5 hB35)
      clear hc4 hvt hv5 hB4 hc5 hB35
      have HL0 := Lib.hid (OwnB.nil W5 W5.heap.size)
      go_wp2_with fail
      go_loopw [49] (fun i wr => ∃ (k : Nat) (vd : Value), k ≤ data.length ∧ i = .int .i64 k ∧ (∀ g, g < W5.heap.size → g ≠ w3.heap.size → wr.heap[g]? = W5.heap[g]?) ∧ Below w3.heap.size w3 wr ∧ wr.heap[w3.heap.size]? = some (.cells #[.slice At l.length ct, vd, .slice none 0 0] 53 (0, 0)) ∧ OwnB wr W5.heap.size vd (dataM (data.take k)) ∧ W5.heap.size ≤ wr.heap.size ∧ (dataM (data.take k)).length ≤ k * 1048576) (fun i _ => data.length - (intOf i).toNat)
      case atStart => exact ⟨0, .slice none 0 0, Nat.zero_le _, rfl, fun _ _ _ => rfl, HC5.out.2, HC5.out.1, HL0.out, Nat.le_refl _, Nat.zero_le _⟩
      case round =>
        obtain ⟨k, vd, hk, rfl, hK, hB, hc, hown, hS, hln⟩ := hrel
        have hPr := H3.out.2.2.2.keep hB
        obtain ⟨Ad, cd, rfl, -⟩ := hown.form
        by_cases hlt : k < data.length
        · have t1 : decide ((k : Int) < (data.length : Int)) = true := decide_eq_true (by omega)
          have hku : (k : Int) < (data.length : Int) := by omega
          obtain ⟨b, o, e0, hb, x0, x1, x2, x3, x4, x5, x6⟩ := item_at hPr.pr.dt k hlt
          cases e0
          have hmem := List.getElem_mem hlt
          have h9 : (data[k]).k = 9 → 0 ≤ (data[k]).n ∧ (data[k]).n ≤ 1048576 := fun hk9 => okI_9 (itemE_ok (HOK.out.data data[k] hmem)).1 hk9
          have HW0 : ∀ W, Calls Tryz.prog 31 #[.agg (data[k]).cs] W (RawTo (rawM data[k]) W) := fun W => araw_any data[k] h9 W
          have hrl := raw_len data[k] h9
          have hTk := dataM_take data k hlt
          generalize rawM data[k] = rl at *
          have hcs : (data[k]).cs = #[.int .i64 (data[k]).k, .string (data[k]).s, .int .i64 (data[k]).op, .int .i64 (data[k]).rd, .int .i64 (data[k]).a, .int .i64 (data[k]).b, .int .i64 (data[k]).n] := rfl
          rw [hcs] at HW0
          clear hcs hmem h9
          generalize data[k].k = v0 at *
          generalize data[k].s = v1 at *
          generalize data[k].op = v2 at *
          generalize data[k].rd = v3 at *
          generalize data[k].a = v4 at *
          generalize data[k].b = v5 at *
          generalize data[k].n = v6 at *
          obtain ⟨W6, hW6⟩ : ∃ W6, W6 = wr.alloc (.cells #[.int .i64 v0, .string v1, .int .i64 v2, .int .i64 v3, .int .i64 v4, .int .i64 v5, .int .i64 v6] 28) := ⟨_, rfl⟩
          have hB6 : Below wr.heap.size wr W6 := by rw [hW6]; exact form1 wr _
          have hbl : W6.heap[wr.heap.size]? = some (.cells #[.int .i64 v0, .string v1, .int .i64 v2, .int .i64 v3, .int .i64 v4, .int .i64 v5, .int .i64 v6] 28 (0, 0)) := by rw [hW6]; exact heap_alloc_new wr _
          have HWW := Lib.hid hW6
          have g0 : W6.cell? ⟨wr.heap.size, 0, none⟩ = some (.int .i64 v0) := (obj_cell hbl 0).trans rfl
          have g1 : W6.cell? ⟨wr.heap.size, 1, none⟩ = some (.string v1) := (obj_cell hbl 1).trans rfl
          have g2 : W6.cell? ⟨wr.heap.size, 2, none⟩ = some (.int .i64 v2) := (obj_cell hbl 2).trans rfl
          have g3 : W6.cell? ⟨wr.heap.size, 3, none⟩ = some (.int .i64 v3) := (obj_cell hbl 3).trans rfl
          have g4 : W6.cell? ⟨wr.heap.size, 4, none⟩ = some (.int .i64 v4) := (obj_cell hbl 4).trans rfl
          have g5 : W6.cell? ⟨wr.heap.size, 5, none⟩ = some (.int .i64 v5) := (obj_cell hbl 5).trans rfl
          have g6 : W6.cell? ⟨wr.heap.size, 6, none⟩ = some (.int .i64 v6) := (obj_cell hbl 6).trans rfl
          have hc6 := (hB6.block w3.heap.size (by omega)).trans hc
          generalize hot : dataM (data.take k) = ot at *
          have p1 : W6.cell? ⟨w3.heap.size, 1, none⟩ = some (.slice Ad ot.length cd) := (obj_cell hc6 1).trans rfl
          have p1f : W6.frozen? ⟨w3.heap.size, 1, none⟩ = false := obj_frozen hc6 1
          have hcl6 := lt_of_block hc6
          have hs6 := hB6.size
          have HH := Lib.hid (And.intro hown (And.intro hB6 (And.intro hc6 (And.intro hK (And.intro hB (And.intro hc hTk))))))
          have HWr := Lib.hid HW0
          have hlo3 : ot.length + rl.length ≤ 140737488355328 := by
            have : k * 1048576 ≤ 1048576 * 1048576 := Nat.mul_le_mul_right _ (by omega)
            omega
          have hlo2 : (ot ++ rl).length ≤ (k + 1) * 1048576 := by
            rw [List.length_append, Nat.add_mul]
            omega
          have HHL := Lib.hid (And.intro hlo2 hlo3)
          clear hown hB6 hc6 hK hB hc HW0 hW6 hbl hPr hTk hot hlo2 hlo3
          go_upto_region 12 with fail
          rw [← HWW.out]
          go_region_law (first
            | (go_simp
               go_at_call 31
               with_reducible refine (HWr.out _).mono ?_
               rintro e w8 ⟨vr, rfl, hor, hB8⟩
               obtain ⟨A8, c8, rfl, hc8⟩ := hor.form
               have q1 : w8.cell? ⟨w3.heap.size, 1, none⟩ = some (.slice Ad ot.length cd) := (hB8.cell (p := ⟨w3.heap.size, 1, none⟩) hcl6).trans p1
               have hcl8 : w3.heap.size < w8.heap.size := Nat.lt_of_lt_of_le hcl6 hB8.size
               have q1f : w8.frozen? ⟨w3.heap.size, 1, none⟩ = false := (hB8.frozen (p := ⟨w3.heap.size, 1, none⟩) hcl6).trans p1f)
            | (refine step_appB rfl (.tmp 54) (.tmp 56) rfl W5.heap.size (.slice Ad ot.length cd) ot rfl ((HH.out.1.below HH.out.2.1).below (show Below W6.heap.size W6 w8 from ⟨hB8.os, hB8.tape, hB8.output, hB8.size, hB8.block⟩)) _ A8 rl.length c8 rl rfl rfl hc8 HHL.out.2 (by have h2 : W6.heap.size ≤ w8.heap.size := hB8.size; omega) ?_
               intro v9 w9 hown9 hB9 hk9
               obtain ⟨A9, c9, rfl, -⟩ := hown9.form
               have h68 : Below W6.heap.size W6 w8 := ⟨hB8.os, hB8.tape, hB8.output, hB8.size, hB8.block⟩
               have hr9 : Below W5.heap.size wr w9 := hB9 wr ((HH.out.2.1.trans (h68.mono hs6)).mono (by omega))
               have hc9 := (hr9.block w3.heap.size hcl5).trans HH.out.2.2.2.2.2.1
               have r1 := (obj_cell hc9 1).trans rfl
               have r1f := obj_frozen hc9 1
               have hcl9 := lt_of_block hc9
               have HR := Lib.hid (And.intro hown9 (And.intro hr9 hc9))
               clear hown9 hB9 hk9 hr9 hc9 h68))
          all_goals
            go_wp2_with fail
            go_roundw
            case rel =>
              refine ⟨k + 1, _, by omega, by go_num, fun g hg hne => ?_, ?_, obj_set HR.out.2.2 1 _, ?_, ?_, ?_⟩
              · rw [Below.heap_setCell _ _ _ _ hne, HR.out.2.1.block g hg]
                exact HH.out.2.2.2.1 g hg hne
              · exact (HH.out.2.2.2.2.1.trans (HR.out.2.1.mono (Nat.le_of_lt hcl5))).setCell (Nat.le_refl _) _
              · rw [HH.out.2.2.2.2.2.2]
                have h0 := HR.out.1
                rw [List.length_append] at h0
                refine h0.keep fun g hg => Below.heap_setCell _ _ _ _ (fun e => ?_)
                have h1 := (h0.block hg).1
                have e2 : g = w3.heap.size := e
                omega
              · have h1 := HR.out.2.1.size
                have h2 : ∀ v, (w9.setCell ⟨w3.heap.size, 1, none⟩ v).heap.size = w9.heap.size := fun v => by simp [World.setCell]
                rw [h2]
                omega
              · rw [HH.out.2.2.2.2.2.2]
                exact HHL.out.1
            case measure => simp [intOf]; omega
        · have t1 : decide ((k : Int) < (data.length : Int)) = false := decide_eq_false (by omega)
          obtain rfl : k = data.length := by omega
          rw [List.take_length] at hown hln hc
          have hcl7 := lt_of_block hc
          have H7 := Lib.hid (And.intro hK (And.intro hB (And.intro hc (And.intro hown hS))))
          generalize dataM data = dd at *
          clear hK hB hc hown hS hPr hln
          have hll := labsM_len F3 (text ++ data)
          have hlen : (text ++ data).length = text.length + data.length := List.length_append
          rw [hlen] at hll
          have HLN := Lib.hid (And.intro hlen hll)
          clear hlen hll
          obtain ⟨W7, hW7⟩ : ∃ W7, W7 = wr := ⟨_, rfl⟩
          subst hW7
          go_wp2_with fail
          go_loopw [65] (fun i wr => ∃ (k : Nat) (vl : Value), k ≤ text.length + data.length ∧ i = .int .i64 k ∧ (∀ g, g < W7.heap.size → g ≠ w3.heap.size → wr.heap[g]? = W7.heap[g]?) ∧ Below w3.heap.size w3 wr ∧ wr.heap[w3.heap.size]? = some (.cells #[.slice At l.length ct, .slice Ad dd.length cd, vl] 53 (0, 0)) ∧ OwnL wr W7.heap.size vl (labsM F3 ((text ++ data).take k)) ∧ W7.heap.size ≤ wr.heap.size) (fun i _ => text.length + data.length - (intOf i).toNat)
          case atStart =>
            exact ⟨0, .slice none 0 0, Nat.zero_le _, rfl, fun _ _ _ => rfl, H7.out.2.1, H7.out.2.2.1, OwnL.nil _ _, Nat.le_refl _⟩
          case round =>
            obtain ⟨k, vl, hk, rfl, hK, hB, hc, hown, hS⟩ := hrel
            have hPr := H3.out.2.2.2.keep hB
            obtain ⟨Al, cl, rfl, -⟩ := hown.form
            by_cases hlt : k < text.length + data.length
            · have t7 : decide ((k : Int) < (text.length : Int) + (data.length : Int)) = true := decide_eq_true (by omega)
              have hka : k < (text ++ data).length := by rw [HLN.out.1]; exact hlt
              have hs := HNS.out _ (List.getElem_mem hka)
              have hTk := labsM_take F3 (text ++ data) k hka
              have HI0 := (fun (W : World) (hW : PrAt W p TA tc text DA dc data at_ dat mb sv) => apitem_any W p TA tc text DA dc data at_ dat mb sv hW k hka)
              have hotl : (labsM F3 ((text ++ data).take k)).length ≤ 1048576 := by
                have := labsM_len F3 ((text ++ data).take k)
                rw [List.length_take] at this
                omega
              generalize labsM F3 ((text ++ data).take k) = ot at *
              obtain ⟨x, hx⟩ : ∃ x, (text ++ data)[k] = x := ⟨_, rfl⟩
              rw [hx] at hs hTk
              simp only [hx] at HI0
              clear hx
              obtain ⟨v0, v1, v2, v3, v4, v5, v6⟩ := x
              have HI := Lib.hid (show ∀ (W : World) (hW : PrAt W p TA tc text DA dc data at_ dat mb sv), Calls Tryz.prog 32 #[.pointer (some ⟨p, 0, none⟩), .int .i64 (k : Int)] W (fun e w' => e = .returned (.agg #[.int .i64 v0, .string v1, .int .i64 v2, .int .i64 v3, .int .i64 v4, .int .i64 v5, .int .i64 v6]) ∧ Below W.heap.size W w') from HI0)
              clear HI0
              have hp := hPr.lt
              have HPr := Lib.hid hPr
              have HH := Lib.hid (And.intro hK (And.intro hB (And.intro hc hown)))
              clear hPr hK hB hc hown
              by_cases hk1 : v0 = 1
              · subst hk1
                rw [if_pos rfl] at hTk
                have HTk := Lib.hid hTk
                clear hTk
                go_wp2_with fail
                with_reducible refine Calls.mono (HI.out _ HPr.out.pr) ?_
                rintro e w8 ⟨rfl, hB8⟩
                have hPx := (HPr.out.keep hB8).keep (form1 w8 (.cells #[.int .i64 1, .string v1, .int .i64 v2, .int .i64 v3, .int .i64 v4, .int .i64 v5, .int .i64 v6] 28))
                obtain ⟨W9, hW9⟩ : ∃ W9, W9 = w8.alloc (.cells #[.int .i64 1, .string v1, .int .i64 v2, .int .i64 v3, .int .i64 v4, .int .i64 v5, .int .i64 v6] 28) := ⟨_, rfl⟩
                have hBx : Below wr.heap.size wr W9 := by rw [hW9]; exact hB8.trans ((form1 w8 _).mono hB8.size)
                have hbl : W9.heap[w8.heap.size]? = some (.cells #[.int .i64 1, .string v1, .int .i64 v2, .int .i64 v3, .int .i64 v4, .int .i64 v5, .int .i64 v6] 28 (0, 0)) := by rw [hW9]; exact heap_alloc_new w8 _
                rw [← hW9] at hPx
                have HW9 := Lib.hid hW9
                clear hW9
                have g0 : W9.cell? ⟨w8.heap.size, 0, none⟩ = some (.int .i64 1) := (obj_cell hbl 0).trans rfl
                have g1 : W9.cell? ⟨w8.heap.size, 1, none⟩ = some (.string v1) := (obj_cell hbl 1).trans rfl
                have c4 : W9.cell? ⟨p, 4, none⟩ = some (.map (some mb)) := hPx.pr.cell 4
                have hp9 := hPx.lt
                have hlk := ((hPx.map).keep (w' := W9.drew) rfl).look v1 hs
                have hc9 := (hBx.block w3.heap.size (by omega)).trans HH.out.2.2.1
                have p2 : W9.cell? ⟨w3.heap.size, 2, none⟩ = some (.slice Al ot.length cl) := (obj_cell hc9 2).trans rfl
                have p2f : W9.frozen? ⟨w3.heap.size, 2, none⟩ = false := obj_frozen hc9 2
                have hcl9 := lt_of_block hc9
                generalize (F3 v1.data.toList).getD 0 = q at *
                have HX9 := Lib.hid (And.intro hBx hc9)
                have hs9 := hBx.size
                have hownW : OwnL (W9.alloc (.cells #[.string v1, .int .u64 (q : Int)] 88)).drew W7.heap.size (.slice Al ot.length cl) ot := owns_below (owns_below HH.out.2.2.2 hBx) (form1 W9 _).drew
                have hlit : Cs (W9.alloc (.cells #[.string v1, .int .u64 (q : Int)] 88)).drew.heap.size (W9.alloc (.cells #[.string v1, .int .u64 (q : Int)] 88)).drew (some ⟨W9.heap.size, 0, none⟩) (lcells [(v1, q)]) := lit_l W9 v1 q
                have hbs : W7.heap.size ≤ (W9.alloc (.cells #[.string v1, .int .u64 (q : Int)] 88)).drew.heap.size := by show _ ≤ (W9.alloc _).heap.size; rw [World.size_alloc]; omega
                have hlen1 : ot.length + 1 ≤ 1000000000 := by omega
                have HLW := Lib.hid (And.intro hownW (And.intro hlit (And.intro hlen1 hbs)))
                clear hlen1
                have HX9 := Lib.hid (And.intro hBx hc9)
                clear hPx hBx hc9 hbl hB8 hownW hlit hbs
                go_upto_region 19 with fail
                rw [← HW9.out]
                go_region_law (refine step_appL rfl (.tmp 75) (.tmp 86) rfl W7.heap.size (.slice Al ot.length cl) ot rfl HLW.out.1 _ (some ⟨W9.heap.size, 0, none⟩) 1 1 [(v1, q)] rfl rfl HLW.out.2.1 HLW.out.2.2.1 HLW.out.2.2.2 ?_
                               intro v10 w10 hown10 hB10 hk10 hs10
                               obtain ⟨A10, c10, rfl, -⟩ := hown10.form
                               have hr10 : Below W7.heap.size wr w10 := hB10 wr (((HX9.out.1.trans ((form1 W9 _).mono hs9)).drew).mono (by omega))
                               have hc10 := (hr10.block w3.heap.size hcl7).trans HH.out.2.2.1
                               have r1 := (obj_cell hc10 2).trans rfl
                               have r1f := obj_frozen hc10 2
                               have hcl10 := lt_of_block hc10
                               have HR := Lib.hid (And.intro hown10 (And.intro hr10 hc10))
                               clear hown10 hB10 hk10 hr10 hc10)
                all_goals
                  go_wp2_with fail
                  go_roundw
                  case rel =>
                    refine ⟨k + 1, _, by omega, by go_num, fun g hg hne => ?_, ?_, obj_set HR.out.2.2 2 _, ?_, ?_⟩
                    · rw [Below.heap_setCell _ _ _ _ hne, HR.out.2.1.block g hg]
                      exact HH.out.1 g hg hne
                    · exact (HH.out.2.1.trans (HR.out.2.1.mono (Nat.le_of_lt hcl7))).setCell (Nat.le_refl _) _
                    · rw [HTk.out]
                      have h0 := HR.out.1
                      rw [List.length_append] at h0
                      refine owns_keep h0 fun g hg => Below.heap_setCell _ _ _ _ (fun e => ?_)
                      have h1 := (owns_block h0 hg).1
                      have e2 : g = w3.heap.size := e
                      omega
                    · have h1 := HR.out.2.1.size
                      have h2 : ∀ v, (w10.setCell ⟨w3.heap.size, 2, none⟩ v).heap.size = w10.heap.size := fun v => by simp [World.setCell]
                      rw [h2]
                      omega
                  case measure => simp [intOf]; omega
              · have tk : (v0 == 1) = false := by simpa using hk1
                rw [if_neg hk1, List.append_nil] at hTk
                have HTk := Lib.hid hTk
                clear hTk hk1
                go_wp2_with fail
                with_reducible refine Calls.mono (HI.out _ HPr.out.pr) ?_
                rintro e w8 ⟨rfl, hB8⟩
                have hBx : Below wr.heap.size wr (w8.alloc (.cells #[.int .i64 v0, .string v1, .int .i64 v2, .int .i64 v3, .int .i64 v4, .int .i64 v5, .int .i64 v6] 28)) := hB8.trans ((form1 w8 _).mono hB8.size)
                have HX9 := Lib.hid hBx
                clear hBx hB8
                go_wp2_with fail
                go_roundw
                case rel =>
                  refine ⟨k + 1, _, by omega, by go_num, fun g hg hne => ?_, ?_, (HX9.out.block w3.heap.size (by omega)).trans HH.out.2.2.1, ?_, ?_⟩
                  · rw [HX9.out.block g (by omega)]
                    exact HH.out.1 g hg hne
                  · exact HH.out.2.1.trans (HX9.out.mono (by omega))
                  · rw [HTk.out]
                    exact owns_below HH.out.2.2.2 HX9.out
                  · exact Nat.le_trans hS HX9.out.size
                case measure => simp [intOf]; omega
            · have t7 : decide ((k : Int) < (text.length : Int) + (data.length : Int)) = false := decide_eq_false (by omega)
              obtain rfl : k = text.length + data.length := by omega
              rw [show (text ++ data).take (text.length + data.length) = text ++ data from List.take_of_length_le (by rw [HLN.out.1]; exact Nat.le_refl _)] at hown hc
              have hlb : labsM (layM text data S at_ dat F) (text ++ data) = labsM F3 (text ++ data) := by rw [HF3.out]
              generalize labsM F3 (text ++ data) = lb at *
              have c0 := (obj_cell hc 0).trans rfl
              have c1 := (obj_cell hc 1).trans rfl
              have c2 := (obj_cell hc 2).trans rfl
              have hzf := (hB.block w.heap.size hzl3).trans H3.out.1
              obtain ⟨⟨y0, y1, y2⟩, y3, y4, y5⟩ := code_zero hzf
              have hcl8 := lt_of_block hc
              have hzl8 := lt_of_block hzf
              have o1 : OwnB wr (w3.heap.size + 1) (.slice At l.length ct) l := HV5.out.keep fun g hg => by
                obtain ⟨h1, cur, h2⟩ := HV5.out.block hg
                have h3 := lt_of_block h2
                rw [hK g (Nat.lt_of_lt_of_le h3 H7.out.2.2.2.2) (by omega), H7.out.1 g h3 (by omega)]
              have o2 : OwnB wr W5.heap.size (.slice Ad dd.length cd) dd := H7.out.2.2.2.1.keep fun g hg => by
                obtain ⟨h1, cur, h2⟩ := H7.out.2.2.2.1.block hg
                exact hK g (lt_of_block h2) (by omega)
              have hW57 := H7.out.2.2.2.2
              have hF := Lib.hid (And.intro o1 (And.intro o2 (And.intro hown (And.intro hzf (And.intro (H3.out.2.1.trans (hB.mono (Nat.le_of_lt hzl3))) hlb)))))
              clear hK hB hc hown hPr o1 o2 hzf hlb
              go_wp2_with fail
              refine code_ret _ _ w.heap.size _ _ _ hF.out.2.2.2.1 _ _ _ _ _ _ rfl rfl rfl (HPo.out _ S l _ _ _ HFN.out (by rw [HF3.out]; exact HBE.out) (below_set3 hF.out.2.2.2.2.1 (Nat.le_refl _) _ _ _) ?_ ?_ ?_)
              · exact own_set3 hF.out.1 (by omega) (by omega) _ _ _
              · exact own_set3 hF.out.2.1 (by omega) (by omega) _ _ _
              · rw [hF.out.2.2.2.2.2]
                exact own_set3 hF.out.2.2.1 (by omega) (by omega) _ _ _
end
end Go.Proofs
