/- (*program).code: an item's instructions. (Printed by wip/tools/gen_code.py.) -/
import Derived.Test.YtemngapfnkokiaaDoorAsmM
import Derived.BigQuiet
import Derived.RegionTactic
namespace Go.Proofs
open Go Go.RowKit Go.Pat
def CodeTo (c : List In × Bool) (w : World) (e : Ending) (w' : World) : Prop := ∃ v, e = .returned (.tuple #[v, .bool c.2]) ∧ OwnI w' w.heap.size v c.1 ∧ Below w.heap.size w w'
theorem own_at {W : World} {base n : Nat} (hb : base ≤ W.heap.size) (hn : W.heap.size = n) (i : In) : OwnI (W.alloc (.cells #[.int .i64 i.op, .int .i64 i.rd, .int .i64 i.a, .int .i64 i.b, .int .i64 i.n] 32)) base (.slice (some ⟨n, 0, none⟩) 1 1) [i] := by
  subst hn
  exact OwnI.lit W base hb i
theorem own_at2 {W : World} {base n : Nat} (hb : base ≤ W.heap.size) (hn : W.heap.size = n) (i j : In) : OwnI (W.alloc (.cells #[.int .i64 i.op, .int .i64 i.rd, .int .i64 i.a, .int .i64 i.b, .int .i64 i.n, .int .i64 j.op, .int .i64 j.rd, .int .i64 j.a, .int .i64 j.b, .int .i64 j.n] 32)) base (.slice (some ⟨n, 0, none⟩) 2 2) [i, j] := by
  subst hn
  exact World.ownsRow_lit (base := base) (e := 32) (size := 5) W #[.int .i64 i.op, .int .i64 i.rd, .int .i64 i.a, .int .i64 i.b, .int .i64 i.n, .int .i64 j.op, .int .i64 j.rd, .int .i64 j.a, .int .i64 j.b, .int .i64 j.n] 2 hb (by decide) rfl
theorem size_alN (w : World) (o : Obj) (j : Nat) : ((w.alloc o).drewN j).heap.size = w.heap.size + 1 := World.size_alloc w o
theorem tmodTwo (d : Int) : d.tmod 2 = 0 ↔ d % 2 = 0 := by rw [← Int.dvd_iff_tmod_eq_zero, Int.dvd_iff_emod_eq_zero]
theorem size_alN2 (w : World) (o : Obj) (j : Nat) (o2 : Obj) : (((w.alloc o).drewN j).alloc o2).heap.size = w.heap.size + 1 + 1 := by rw [World.size_alloc, size_alN]
theorem belowN2 (w : World) (a : Obj) (j : Nat) (b c : Obj) : Below w.heap.size w ((((w.alloc a).drewN j).alloc b).alloc c) := by
  have h1 := bdrewN (form1 w a) j
  have h2 := h1.alloc h1.size b
  exact h2.alloc h2.size c
theorem belowN1 (w : World) (a : Obj) (j : Nat) (b : Obj) : Below w.heap.size w (((w.alloc a).drewN j).alloc b) := by
  have h1 := bdrewN (form1 w a) j
  exact h1.alloc h1.size b
theorem blockN2 (w : World) (a : Obj) (j : Nat) (b : Obj) : (((w.alloc a).drewN j).alloc b).heap[w.heap.size + 1]? = some b := by
  have h := heap_alloc_new ((w.alloc a).drewN j) b
  rw [size_alN] at h
  exact h
theorem size_al (w : World) (o : Obj) : (w.alloc o).heap.size = w.heap.size + 1 := World.size_alloc w o
section
variable (w : World) (p : Nat) (TA : Option Addr) (tc : Nat) (text : List It) (DA : Option Addr) (dc : Nat) (data : List It) (at_ dat mb : Nat) (SA : Option Addr) (sc : Nat) (sizes : List Int)
set_option maxRecDepth 20000 in
set_option maxHeartbeats 4000000 in
theorem acode_odd5 (hP : PrAt w p TA tc text DA dc data at_ dat mb (.slice SA sizes.length sc)) (nm : Nat) (F : List UInt8 → Option Nat) (hM : SMap w mb nm F) (hS : Cs w.heap.size w SA (sizes.map (Value.int .i64))) (hl : sizes.length = text.length)
    (n : Nat) (hn : n < text.length) (ad : Nat) (hns : (text[n]).s.size ≤ maxLen) (hk : (text[n]).k = 5) (ho : distM F (text[n]).s ad % 2 ≠ 0) :
    Calls Tryd.prog 77 #[.pointer (some ⟨p, 0, none⟩), .int .i64 (n : Int), .int .u64 (ad : Int)] w (CodeTo (codeM text[n] (sizes[n]'(by omega)) (distM F (text[n]).s ad)) w) := by
  have hlt := lt_of_block hP.str
  have c0 : w.cell? ⟨p, 0, none⟩ = some (.slice TA text.length tc) := hP.cell 0
  have c4 : w.cell? ⟨p, 4, none⟩ = some (.map (some mb)) := hP.cell 4
  have c5 : w.cell? ⟨p, 5, none⟩ = some (.slice SA sizes.length sc) := hP.cell 5
  obtain ⟨b, o, rfl, hb, x0, x1, x2, x3, x4, x5, x6⟩ := item_at hP.tx n hn
  obtain ⟨b2, o2, rfl, hb2, y0⟩ := hS n (by simp; omega)
  simp only [List.getElem_map] at y0
  have htl := hP.tl
  have hML := fun (X : Obj) (j : Nat) => ((hM.below (form1 w X)).keep (w' := (w.alloc X).drewN j) rfl).look _ hns
  have hML0 := fun (X : Obj) => (hM.below (form1 w X)).look _ hns
  have hmb := hM.lt
  generalize hd : distM F (text[n]).s ad = d at *
  unfold distM at hd
  have tt : decide ((n : Int) < (text.length : Int)) = true := decide_eq_true (by omega)
  have hnl : (n : Int) < (text.length : Int) := by omega
  have hnl2 : (n : Int) < (sizes.length : Int) := by omega
  have hn2 : n < sizes.length := by omega
  generalize sizes[n] = sz at *
  clear hP hM hS hl
  generalize text[n] = x at *
  obtain ⟨v0, v1, v2, v3, v4, v5, v6⟩ := x
  try simp only at x0 x1 x2 x3 x4 x5 x6 hd hns hML hML0 hk ho
  generalize (F v1.data.toList).getD 0 = q at *
  subst hk
  have to : (d.tmod 2 != 0) = true := by rw [bne_iff_ne, ne_eq, tmodTwo]; exact ho
  have HV := Lib.hid (show codeM ⟨5, v1, v2, v3, v4, v5, v6⟩ sz d = ([], false) by unfold codeM; rw [if_pos ⟨by simp, ho⟩])
  clear ho
  go_enter Tryd.func77, Tryd.ntmps77
  go_wp2_with fail
  go_quiet (fail)
  go_wp2_with fail
  go_ret2
  rw [HV.out]
  exact ⟨_, rfl, OwnI.nil _ _, bdrewN (form1 w _) _⟩
set_option maxRecDepth 20000 in
set_option maxHeartbeats 4000000 in
theorem acode_odd6 (hP : PrAt w p TA tc text DA dc data at_ dat mb (.slice SA sizes.length sc)) (nm : Nat) (F : List UInt8 → Option Nat) (hM : SMap w mb nm F) (hS : Cs w.heap.size w SA (sizes.map (Value.int .i64))) (hl : sizes.length = text.length)
    (n : Nat) (hn : n < text.length) (ad : Nat) (hns : (text[n]).s.size ≤ maxLen) (hk : (text[n]).k = 6) (ho : distM F (text[n]).s ad % 2 ≠ 0) :
    Calls Tryd.prog 77 #[.pointer (some ⟨p, 0, none⟩), .int .i64 (n : Int), .int .u64 (ad : Int)] w (CodeTo (codeM text[n] (sizes[n]'(by omega)) (distM F (text[n]).s ad)) w) := by
  have hlt := lt_of_block hP.str
  have c0 : w.cell? ⟨p, 0, none⟩ = some (.slice TA text.length tc) := hP.cell 0
  have c4 : w.cell? ⟨p, 4, none⟩ = some (.map (some mb)) := hP.cell 4
  have c5 : w.cell? ⟨p, 5, none⟩ = some (.slice SA sizes.length sc) := hP.cell 5
  obtain ⟨b, o, rfl, hb, x0, x1, x2, x3, x4, x5, x6⟩ := item_at hP.tx n hn
  obtain ⟨b2, o2, rfl, hb2, y0⟩ := hS n (by simp; omega)
  simp only [List.getElem_map] at y0
  have htl := hP.tl
  have hML := fun (X : Obj) (j : Nat) => ((hM.below (form1 w X)).keep (w' := (w.alloc X).drewN j) rfl).look _ hns
  have hML0 := fun (X : Obj) => (hM.below (form1 w X)).look _ hns
  have hmb := hM.lt
  generalize hd : distM F (text[n]).s ad = d at *
  unfold distM at hd
  have tt : decide ((n : Int) < (text.length : Int)) = true := decide_eq_true (by omega)
  have hnl : (n : Int) < (text.length : Int) := by omega
  have hnl2 : (n : Int) < (sizes.length : Int) := by omega
  have hn2 : n < sizes.length := by omega
  generalize sizes[n] = sz at *
  clear hP hM hS hl
  generalize text[n] = x at *
  obtain ⟨v0, v1, v2, v3, v4, v5, v6⟩ := x
  try simp only at x0 x1 x2 x3 x4 x5 x6 hd hns hML hML0 hk ho
  generalize (F v1.data.toList).getD 0 = q at *
  subst hk
  have to : (d.tmod 2 != 0) = true := by rw [bne_iff_ne, ne_eq, tmodTwo]; exact ho
  have HV := Lib.hid (show codeM ⟨6, v1, v2, v3, v4, v5, v6⟩ sz d = ([], false) by unfold codeM; rw [if_pos ⟨by simp, ho⟩])
  clear ho
  go_enter Tryd.func77, Tryd.ntmps77
  go_wp2_with fail
  go_quiet (fail)
  go_wp2_with fail
  go_ret2
  rw [HV.out]
  exact ⟨_, rfl, OwnI.nil _ _, bdrewN (form1 w _) _⟩
set_option maxRecDepth 20000 in
set_option maxHeartbeats 4000000 in
theorem acode_odd7 (hP : PrAt w p TA tc text DA dc data at_ dat mb (.slice SA sizes.length sc)) (nm : Nat) (F : List UInt8 → Option Nat) (hM : SMap w mb nm F) (hS : Cs w.heap.size w SA (sizes.map (Value.int .i64))) (hl : sizes.length = text.length)
    (n : Nat) (hn : n < text.length) (ad : Nat) (hns : (text[n]).s.size ≤ maxLen) (hk : (text[n]).k = 7) (ho : distM F (text[n]).s ad % 2 ≠ 0) :
    Calls Tryd.prog 77 #[.pointer (some ⟨p, 0, none⟩), .int .i64 (n : Int), .int .u64 (ad : Int)] w (CodeTo (codeM text[n] (sizes[n]'(by omega)) (distM F (text[n]).s ad)) w) := by
  have hlt := lt_of_block hP.str
  have c0 : w.cell? ⟨p, 0, none⟩ = some (.slice TA text.length tc) := hP.cell 0
  have c4 : w.cell? ⟨p, 4, none⟩ = some (.map (some mb)) := hP.cell 4
  have c5 : w.cell? ⟨p, 5, none⟩ = some (.slice SA sizes.length sc) := hP.cell 5
  obtain ⟨b, o, rfl, hb, x0, x1, x2, x3, x4, x5, x6⟩ := item_at hP.tx n hn
  obtain ⟨b2, o2, rfl, hb2, y0⟩ := hS n (by simp; omega)
  simp only [List.getElem_map] at y0
  have htl := hP.tl
  have hML := fun (X : Obj) (j : Nat) => ((hM.below (form1 w X)).keep (w' := (w.alloc X).drewN j) rfl).look _ hns
  have hML0 := fun (X : Obj) => (hM.below (form1 w X)).look _ hns
  have hmb := hM.lt
  generalize hd : distM F (text[n]).s ad = d at *
  unfold distM at hd
  have tt : decide ((n : Int) < (text.length : Int)) = true := decide_eq_true (by omega)
  have hnl : (n : Int) < (text.length : Int) := by omega
  have hnl2 : (n : Int) < (sizes.length : Int) := by omega
  have hn2 : n < sizes.length := by omega
  generalize sizes[n] = sz at *
  clear hP hM hS hl
  generalize text[n] = x at *
  obtain ⟨v0, v1, v2, v3, v4, v5, v6⟩ := x
  try simp only at x0 x1 x2 x3 x4 x5 x6 hd hns hML hML0 hk ho
  generalize (F v1.data.toList).getD 0 = q at *
  subst hk
  have to : (d.tmod 2 != 0) = true := by rw [bne_iff_ne, ne_eq, tmodTwo]; exact ho
  have HV := Lib.hid (show codeM ⟨7, v1, v2, v3, v4, v5, v6⟩ sz d = ([], false) by unfold codeM; rw [if_pos ⟨by simp, ho⟩])
  clear ho
  go_enter Tryd.func77, Tryd.ntmps77
  go_wp2_with fail
  go_quiet (fail)
  go_wp2_with fail
  go_ret2
  rw [HV.out]
  exact ⟨_, rfl, OwnI.nil _ _, bdrewN (form1 w _) _⟩
set_option maxRecDepth 20000 in
set_option maxHeartbeats 4000000 in
theorem acode_2 (hP : PrAt w p TA tc text DA dc data at_ dat mb (.slice SA sizes.length sc)) (nm : Nat) (F : List UInt8 → Option Nat) (hM : SMap w mb nm F) (hS : Cs w.heap.size w SA (sizes.map (Value.int .i64))) (hl : sizes.length = text.length)
    (n : Nat) (hn : n < text.length) (ad : Nat) (hns : (text[n]).s.size ≤ maxLen) (hk : (text[n]).k = 2) :
    Calls Tryd.prog 77 #[.pointer (some ⟨p, 0, none⟩), .int .i64 (n : Int), .int .u64 (ad : Int)] w (CodeTo (codeM text[n] (sizes[n]'(by omega)) (distM F (text[n]).s ad)) w) := by
  have hlt := lt_of_block hP.str
  have c0 : w.cell? ⟨p, 0, none⟩ = some (.slice TA text.length tc) := hP.cell 0
  have c4 : w.cell? ⟨p, 4, none⟩ = some (.map (some mb)) := hP.cell 4
  have c5 : w.cell? ⟨p, 5, none⟩ = some (.slice SA sizes.length sc) := hP.cell 5
  obtain ⟨b, o, rfl, hb, x0, x1, x2, x3, x4, x5, x6⟩ := item_at hP.tx n hn
  obtain ⟨b2, o2, rfl, hb2, y0⟩ := hS n (by simp; omega)
  simp only [List.getElem_map] at y0
  have htl := hP.tl
  have hML := fun (X : Obj) (j : Nat) => ((hM.below (form1 w X)).keep (w' := (w.alloc X).drewN j) rfl).look _ hns
  have hML0 := fun (X : Obj) => (hM.below (form1 w X)).look _ hns
  have hmb := hM.lt
  generalize hd : distM F (text[n]).s ad = d at *
  unfold distM at hd
  have tt : decide ((n : Int) < (text.length : Int)) = true := decide_eq_true (by omega)
  have hnl : (n : Int) < (text.length : Int) := by omega
  have hnl2 : (n : Int) < (sizes.length : Int) := by omega
  have hn2 : n < sizes.length := by omega
  generalize sizes[n] = sz at *
  clear hP hM hS hl
  generalize text[n] = x at *
  obtain ⟨v0, v1, v2, v3, v4, v5, v6⟩ := x
  try simp only at x0 x1 x2 x3 x4 x5 x6 hd hns hML hML0 hk
  generalize (F v1.data.toList).getD 0 = q at *
  subst hk
  have HV := Lib.hid (show codeM ⟨2, v1, v2, v3, v4, v5, v6⟩ sz d = ([⟨v2, v3, v4, v5, v6⟩], true) by unfold codeM; rw [if_neg (by simp), if_pos rfl])
  go_enter Tryd.func77, Tryd.ntmps77
  go_wp2_with fail
  go_quiet (fail)
  go_wp2_with fail
  go_ret2
  rw [HV.out]
  exact ⟨_, rfl, own_at (by rw [size_alN]; omega) (size_alN w _ _) ⟨v2, v3, v4, v5, v6⟩, (bdrewN (form1 w _) _).alloc (form1 w _).size _⟩
set_option maxRecDepth 20000 in
set_option maxHeartbeats 4000000 in
theorem acode_3 (hP : PrAt w p TA tc text DA dc data at_ dat mb (.slice SA sizes.length sc)) (nm : Nat) (F : List UInt8 → Option Nat) (hM : SMap w mb nm F) (hS : Cs w.heap.size w SA (sizes.map (Value.int .i64))) (hl : sizes.length = text.length)
    (n : Nat) (hn : n < text.length) (ad : Nat) (hns : (text[n]).s.size ≤ maxLen) (hk : (text[n]).k = 3) (hT : TzTab w) (hr : -9223372036854775808 ≤ (text[n]).n ∧ (text[n]).n < 9223372036854775808) :
    Calls Tryd.prog 77 #[.pointer (some ⟨p, 0, none⟩), .int .i64 (n : Int), .int .u64 (ad : Int)] w (CodeTo (codeM text[n] (sizes[n]'(by omega)) (distM F (text[n]).s ad)) w) := by
  have hlt := lt_of_block hP.str
  have c0 : w.cell? ⟨p, 0, none⟩ = some (.slice TA text.length tc) := hP.cell 0
  have c4 : w.cell? ⟨p, 4, none⟩ = some (.map (some mb)) := hP.cell 4
  have c5 : w.cell? ⟨p, 5, none⟩ = some (.slice SA sizes.length sc) := hP.cell 5
  obtain ⟨b, o, rfl, hb, x0, x1, x2, x3, x4, x5, x6⟩ := item_at hP.tx n hn
  obtain ⟨b2, o2, rfl, hb2, y0⟩ := hS n (by simp; omega)
  simp only [List.getElem_map] at y0
  have htl := hP.tl
  have hML := fun (X : Obj) (j : Nat) => ((hM.below (form1 w X)).keep (w' := (w.alloc X).drewN j) rfl).look _ hns
  have hML0 := fun (X : Obj) => (hM.below (form1 w X)).look _ hns
  have hmb := hM.lt
  generalize hd : distM F (text[n]).s ad = d at *
  unfold distM at hd
  have tt : decide ((n : Int) < (text.length : Int)) = true := decide_eq_true (by omega)
  have hnl : (n : Int) < (text.length : Int) := by omega
  have hnl2 : (n : Int) < (sizes.length : Int) := by omega
  have hn2 : n < sizes.length := by omega
  generalize sizes[n] = sz at *
  clear hP hM hS hl
  generalize text[n] = x at *
  obtain ⟨v0, v1, v2, v3, v4, v5, v6⟩ := x
  try simp only at x0 x1 x2 x3 x4 x5 x6 hd hns hML hML0 hk hT hr
  generalize (F v1.data.toList).getD 0 = q at *
  subst hk
  have HV := Lib.hid (show codeM ⟨3, v1, v2, v3, v4, v5, v6⟩ sz d = (liL v3 v6, true) by unfold codeM; rw [if_neg (by simp), if_neg (by simp), if_pos rfl])
  have HL := Lib.hid (fun W hW => li_all v3 v6 W hW hr)
  have HT := Lib.hid hT
  clear hT hr
  go_enter Tryd.func77, Tryd.ntmps77
  go_wp2_with fail
  go_quiet (fail)
  go_wp2_with fail
  refine Calls.mono (HL.out _ (HT.out.below (bdrewN (form1 w _) _))) ?_
  rintro e w2 ⟨v, rfl, hown, hB2⟩
  have HO := Lib.hid hown
  clear hown
  go_wp2_with fail
  go_ret2
  rw [HV.out]
  exact ⟨_, rfl, HO.out.base (bdrewN (form1 w _) _).size, (bdrewN (form1 w _) _).trans (hB2.mono (bdrewN (form1 w _) _).size)⟩
set_option maxRecDepth 20000 in
set_option maxHeartbeats 4000000 in
theorem acode_4 (hP : PrAt w p TA tc text DA dc data at_ dat mb (.slice SA sizes.length sc)) (nm : Nat) (F : List UInt8 → Option Nat) (hM : SMap w mb nm F) (hS : Cs w.heap.size w SA (sizes.map (Value.int .i64))) (hl : sizes.length = text.length)
    (n : Nat) (hn : n < text.length) (ad : Nat) (hns : (text[n]).s.size ≤ maxLen) (hk : (text[n]).k = 4) :
    Calls Tryd.prog 77 #[.pointer (some ⟨p, 0, none⟩), .int .i64 (n : Int), .int .u64 (ad : Int)] w (CodeTo (codeM text[n] (sizes[n]'(by omega)) (distM F (text[n]).s ad)) w) := by
  have hlt := lt_of_block hP.str
  have c0 : w.cell? ⟨p, 0, none⟩ = some (.slice TA text.length tc) := hP.cell 0
  have c4 : w.cell? ⟨p, 4, none⟩ = some (.map (some mb)) := hP.cell 4
  have c5 : w.cell? ⟨p, 5, none⟩ = some (.slice SA sizes.length sc) := hP.cell 5
  obtain ⟨b, o, rfl, hb, x0, x1, x2, x3, x4, x5, x6⟩ := item_at hP.tx n hn
  obtain ⟨b2, o2, rfl, hb2, y0⟩ := hS n (by simp; omega)
  simp only [List.getElem_map] at y0
  have htl := hP.tl
  have hML := fun (X : Obj) (j : Nat) => ((hM.below (form1 w X)).keep (w' := (w.alloc X).drewN j) rfl).look _ hns
  have hML0 := fun (X : Obj) => (hM.below (form1 w X)).look _ hns
  have hmb := hM.lt
  generalize hd : distM F (text[n]).s ad = d at *
  unfold distM at hd
  have tt : decide ((n : Int) < (text.length : Int)) = true := decide_eq_true (by omega)
  have hnl : (n : Int) < (text.length : Int) := by omega
  have hnl2 : (n : Int) < (sizes.length : Int) := by omega
  have hn2 : n < sizes.length := by omega
  generalize sizes[n] = sz at *
  clear hP hM hS hl
  generalize text[n] = x at *
  obtain ⟨v0, v1, v2, v3, v4, v5, v6⟩ := x
  try simp only at x0 x1 x2 x3 x4 x5 x6 hd hns hML hML0 hk
  generalize (F v1.data.toList).getD 0 = q at *
  subst hk
  have HV := Lib.hid (show codeM ⟨4, v1, v2, v3, v4, v5, v6⟩ sz d = ([⟨2, v3, 0, 0, farH d⟩, ⟨22, v3, v3, 0, restI d⟩], farB d) by unfold codeM; rw [if_neg (by simp), if_neg (by simp), if_neg (by simp), if_pos rfl])
  go_enter Tryd.func77, Tryd.ntmps77
  go_wp2_with fail
  go_quiet (fail)
  go_wp2_with (go_at_call 109; refine (apairLa_any v3 d w.heap.size _ ?hc ?hl).mono ?hk)
  case hc => go_simp
  case hl => rw [size_alN]; omega
  case hk =>
    rintro e w2 ⟨v, rfl, hown, hB2⟩
    have HO := Lib.hid hown
    clear hown
    go_wp2_with fail
    go_ret2
    rw [HV.out]
    exact ⟨_, rfl, HO.out.base (bdrewN (form1 w _) _).size, (bdrewN (form1 w _) _).trans (hB2.mono (bdrewN (form1 w _) _).size)⟩
set_option maxRecDepth 20000 in
set_option maxHeartbeats 4000000 in
theorem acode_5_4 (hP : PrAt w p TA tc text DA dc data at_ dat mb (.slice SA sizes.length sc)) (nm : Nat) (F : List UInt8 → Option Nat) (hM : SMap w mb nm F) (hS : Cs w.heap.size w SA (sizes.map (Value.int .i64))) (hl : sizes.length = text.length)
    (n : Nat) (hn : n < text.length) (ad : Nat) (hns : (text[n]).s.size ≤ maxLen) (hk : (text[n]).k = 5) (ho : distM F (text[n]).s ad % 2 = 0) (hz : sizes[n]'(by omega) = 4) :
    Calls Tryd.prog 77 #[.pointer (some ⟨p, 0, none⟩), .int .i64 (n : Int), .int .u64 (ad : Int)] w (CodeTo (codeM text[n] (sizes[n]'(by omega)) (distM F (text[n]).s ad)) w) := by
  have hlt := lt_of_block hP.str
  have c0 : w.cell? ⟨p, 0, none⟩ = some (.slice TA text.length tc) := hP.cell 0
  have c4 : w.cell? ⟨p, 4, none⟩ = some (.map (some mb)) := hP.cell 4
  have c5 : w.cell? ⟨p, 5, none⟩ = some (.slice SA sizes.length sc) := hP.cell 5
  obtain ⟨b, o, rfl, hb, x0, x1, x2, x3, x4, x5, x6⟩ := item_at hP.tx n hn
  obtain ⟨b2, o2, rfl, hb2, y0⟩ := hS n (by simp; omega)
  simp only [List.getElem_map] at y0
  have htl := hP.tl
  have hML := fun (X : Obj) (j : Nat) => ((hM.below (form1 w X)).keep (w' := (w.alloc X).drewN j) rfl).look _ hns
  have hML0 := fun (X : Obj) => (hM.below (form1 w X)).look _ hns
  have hmb := hM.lt
  generalize hd : distM F (text[n]).s ad = d at *
  unfold distM at hd
  have tt : decide ((n : Int) < (text.length : Int)) = true := decide_eq_true (by omega)
  have hnl : (n : Int) < (text.length : Int) := by omega
  have hnl2 : (n : Int) < (sizes.length : Int) := by omega
  have hn2 : n < sizes.length := by omega
  generalize sizes[n] = sz at *
  clear hP hM hS hl
  generalize text[n] = x at *
  obtain ⟨v0, v1, v2, v3, v4, v5, v6⟩ := x
  try simp only at x0 x1 x2 x3 x4 x5 x6 hd hns hML hML0 hk ho hz
  generalize (F v1.data.toList).getD 0 = q at *
  subst hk
  subst hz
  have to : (d.tmod 2 != 0) = false := by rw [bne_eq_false_iff_eq, tmodTwo]; exact ho
  have HV := Lib.hid (show codeM ⟨5, v1, v2, v3, v4, v5, v6⟩ 4 d = ([⟨3, v3, 0, 0, d⟩], true) by unfold codeM; rw [if_neg (fun c => c.2 ho), if_neg (by simp), if_neg (by simp), if_neg (by simp), if_pos (by simp), if_pos rfl])
  clear ho
  go_enter Tryd.func77, Tryd.ntmps77
  go_wp2_with fail
  go_quiet (fail)
  go_wp2_with fail
  go_ret2
  rw [HV.out]
  exact ⟨_, rfl, own_at (by rw [size_alN]; omega) (size_alN w _ _) ⟨3, v3, 0, 0, d⟩, (bdrewN (form1 w _) _).alloc (form1 w _).size _⟩
set_option maxRecDepth 20000 in
set_option maxHeartbeats 4000000 in
theorem acode_5_8 (hP : PrAt w p TA tc text DA dc data at_ dat mb (.slice SA sizes.length sc)) (nm : Nat) (F : List UInt8 → Option Nat) (hM : SMap w mb nm F) (hS : Cs w.heap.size w SA (sizes.map (Value.int .i64))) (hl : sizes.length = text.length)
    (n : Nat) (hn : n < text.length) (ad : Nat) (hns : (text[n]).s.size ≤ maxLen) (hk : (text[n]).k = 5) (ho : distM F (text[n]).s ad % 2 = 0) (hz : sizes[n]'(by omega) ≠ 4) :
    Calls Tryd.prog 77 #[.pointer (some ⟨p, 0, none⟩), .int .i64 (n : Int), .int .u64 (ad : Int)] w (CodeTo (codeM text[n] (sizes[n]'(by omega)) (distM F (text[n]).s ad)) w) := by
  have hlt := lt_of_block hP.str
  have c0 : w.cell? ⟨p, 0, none⟩ = some (.slice TA text.length tc) := hP.cell 0
  have c4 : w.cell? ⟨p, 4, none⟩ = some (.map (some mb)) := hP.cell 4
  have c5 : w.cell? ⟨p, 5, none⟩ = some (.slice SA sizes.length sc) := hP.cell 5
  obtain ⟨b, o, rfl, hb, x0, x1, x2, x3, x4, x5, x6⟩ := item_at hP.tx n hn
  obtain ⟨b2, o2, rfl, hb2, y0⟩ := hS n (by simp; omega)
  simp only [List.getElem_map] at y0
  have htl := hP.tl
  have hML := fun (X : Obj) (j : Nat) => ((hM.below (form1 w X)).keep (w' := (w.alloc X).drewN j) rfl).look _ hns
  have hML0 := fun (X : Obj) => (hM.below (form1 w X)).look _ hns
  have hmb := hM.lt
  generalize hd : distM F (text[n]).s ad = d at *
  unfold distM at hd
  have tt : decide ((n : Int) < (text.length : Int)) = true := decide_eq_true (by omega)
  have hnl : (n : Int) < (text.length : Int) := by omega
  have hnl2 : (n : Int) < (sizes.length : Int) := by omega
  have hn2 : n < sizes.length := by omega
  generalize sizes[n] = sz at *
  clear hP hM hS hl
  generalize text[n] = x at *
  obtain ⟨v0, v1, v2, v3, v4, v5, v6⟩ := x
  try simp only at x0 x1 x2 x3 x4 x5 x6 hd hns hML hML0 hk ho hz
  generalize (F v1.data.toList).getD 0 = q at *
  subst hk
  have tz : (sz == 4) = false := by simpa using hz
  have to : (d.tmod 2 != 0) = false := by rw [bne_eq_false_iff_eq, tmodTwo]; exact ho
  have HV := Lib.hid (show codeM ⟨5, v1, v2, v3, v4, v5, v6⟩ sz d = ([⟨2, 6, 0, 0, farH d⟩, ⟨4, 0, 6, 0, restI d⟩], farB d) by unfold codeM; rw [if_neg (fun c => c.2 ho), if_neg (by simp), if_neg (by simp), if_neg (by simp), if_pos (by simp), if_neg hz, if_pos rfl]; rfl)
  clear ho hz
  go_enter Tryd.func77, Tryd.ntmps77
  go_wp2_with fail
  go_quiet (fail)
  go_wp2_with (go_at_call 108; refine (acode1_any 0 6 d _).mono ?hk)
  case hk =>
    rintro e w2 ⟨v, rfl, hown, hB2⟩
    have HO := Lib.hid hown
    clear hown
    go_wp2_with fail
    go_ret2
    rw [HV.out]
    exact ⟨_, rfl, HO.out.base (bdrewN (form1 w _) _).size, (bdrewN (form1 w _) _).trans (hB2.mono (bdrewN (form1 w _) _).size)⟩
set_option maxRecDepth 20000 in
set_option maxHeartbeats 4000000 in
theorem acode_6_4 (hP : PrAt w p TA tc text DA dc data at_ dat mb (.slice SA sizes.length sc)) (nm : Nat) (F : List UInt8 → Option Nat) (hM : SMap w mb nm F) (hS : Cs w.heap.size w SA (sizes.map (Value.int .i64))) (hl : sizes.length = text.length)
    (n : Nat) (hn : n < text.length) (ad : Nat) (hns : (text[n]).s.size ≤ maxLen) (hk : (text[n]).k = 6) (ho : distM F (text[n]).s ad % 2 = 0) (hz : sizes[n]'(by omega) = 4) :
    Calls Tryd.prog 77 #[.pointer (some ⟨p, 0, none⟩), .int .i64 (n : Int), .int .u64 (ad : Int)] w (CodeTo (codeM text[n] (sizes[n]'(by omega)) (distM F (text[n]).s ad)) w) := by
  have hlt := lt_of_block hP.str
  have c0 : w.cell? ⟨p, 0, none⟩ = some (.slice TA text.length tc) := hP.cell 0
  have c4 : w.cell? ⟨p, 4, none⟩ = some (.map (some mb)) := hP.cell 4
  have c5 : w.cell? ⟨p, 5, none⟩ = some (.slice SA sizes.length sc) := hP.cell 5
  obtain ⟨b, o, rfl, hb, x0, x1, x2, x3, x4, x5, x6⟩ := item_at hP.tx n hn
  obtain ⟨b2, o2, rfl, hb2, y0⟩ := hS n (by simp; omega)
  simp only [List.getElem_map] at y0
  have htl := hP.tl
  have hML := fun (X : Obj) (j : Nat) => ((hM.below (form1 w X)).keep (w' := (w.alloc X).drewN j) rfl).look _ hns
  have hML0 := fun (X : Obj) => (hM.below (form1 w X)).look _ hns
  have hmb := hM.lt
  generalize hd : distM F (text[n]).s ad = d at *
  unfold distM at hd
  have tt : decide ((n : Int) < (text.length : Int)) = true := decide_eq_true (by omega)
  have hnl : (n : Int) < (text.length : Int) := by omega
  have hnl2 : (n : Int) < (sizes.length : Int) := by omega
  have hn2 : n < sizes.length := by omega
  generalize sizes[n] = sz at *
  clear hP hM hS hl
  generalize text[n] = x at *
  obtain ⟨v0, v1, v2, v3, v4, v5, v6⟩ := x
  try simp only at x0 x1 x2 x3 x4 x5 x6 hd hns hML hML0 hk ho hz
  generalize (F v1.data.toList).getD 0 = q at *
  subst hk
  subst hz
  have to : (d.tmod 2 != 0) = false := by rw [bne_eq_false_iff_eq, tmodTwo]; exact ho
  have HV := Lib.hid (show codeM ⟨6, v1, v2, v3, v4, v5, v6⟩ 4 d = ([⟨3, v3, 0, 0, d⟩], true) by unfold codeM; rw [if_neg (fun c => c.2 ho), if_neg (by simp), if_neg (by simp), if_neg (by simp), if_pos (by simp), if_pos rfl])
  clear ho
  go_enter Tryd.func77, Tryd.ntmps77
  go_wp2_with fail
  go_quiet (fail)
  go_wp2_with fail
  go_ret2
  rw [HV.out]
  exact ⟨_, rfl, own_at (by rw [size_alN]; omega) (size_alN w _ _) ⟨3, v3, 0, 0, d⟩, (bdrewN (form1 w _) _).alloc (form1 w _).size _⟩
set_option maxRecDepth 20000 in
set_option maxHeartbeats 4000000 in
theorem acode_6_8 (hP : PrAt w p TA tc text DA dc data at_ dat mb (.slice SA sizes.length sc)) (nm : Nat) (F : List UInt8 → Option Nat) (hM : SMap w mb nm F) (hS : Cs w.heap.size w SA (sizes.map (Value.int .i64))) (hl : sizes.length = text.length)
    (n : Nat) (hn : n < text.length) (ad : Nat) (hns : (text[n]).s.size ≤ maxLen) (hk : (text[n]).k = 6) (ho : distM F (text[n]).s ad % 2 = 0) (hz : sizes[n]'(by omega) ≠ 4) :
    Calls Tryd.prog 77 #[.pointer (some ⟨p, 0, none⟩), .int .i64 (n : Int), .int .u64 (ad : Int)] w (CodeTo (codeM text[n] (sizes[n]'(by omega)) (distM F (text[n]).s ad)) w) := by
  have hlt := lt_of_block hP.str
  have c0 : w.cell? ⟨p, 0, none⟩ = some (.slice TA text.length tc) := hP.cell 0
  have c4 : w.cell? ⟨p, 4, none⟩ = some (.map (some mb)) := hP.cell 4
  have c5 : w.cell? ⟨p, 5, none⟩ = some (.slice SA sizes.length sc) := hP.cell 5
  obtain ⟨b, o, rfl, hb, x0, x1, x2, x3, x4, x5, x6⟩ := item_at hP.tx n hn
  obtain ⟨b2, o2, rfl, hb2, y0⟩ := hS n (by simp; omega)
  simp only [List.getElem_map] at y0
  have htl := hP.tl
  have hML := fun (X : Obj) (j : Nat) => ((hM.below (form1 w X)).keep (w' := (w.alloc X).drewN j) rfl).look _ hns
  have hML0 := fun (X : Obj) => (hM.below (form1 w X)).look _ hns
  have hmb := hM.lt
  generalize hd : distM F (text[n]).s ad = d at *
  unfold distM at hd
  have tt : decide ((n : Int) < (text.length : Int)) = true := decide_eq_true (by omega)
  have hnl : (n : Int) < (text.length : Int) := by omega
  have hnl2 : (n : Int) < (sizes.length : Int) := by omega
  have hn2 : n < sizes.length := by omega
  generalize sizes[n] = sz at *
  clear hP hM hS hl
  generalize text[n] = x at *
  obtain ⟨v0, v1, v2, v3, v4, v5, v6⟩ := x
  try simp only at x0 x1 x2 x3 x4 x5 x6 hd hns hML hML0 hk ho hz
  generalize (F v1.data.toList).getD 0 = q at *
  subst hk
  have tz : (sz == 4) = false := by simpa using hz
  have to : (d.tmod 2 != 0) = false := by rw [bne_eq_false_iff_eq, tmodTwo]; exact ho
  have HV := Lib.hid (show codeM ⟨6, v1, v2, v3, v4, v5, v6⟩ sz d = ([⟨2, v3, 0, 0, farH d⟩, ⟨4, v3, v3, 0, restI d⟩], farB d) by unfold codeM; rw [if_neg (fun c => c.2 ho), if_neg (by simp), if_neg (by simp), if_neg (by simp), if_pos (by simp), if_neg hz, if_neg (by simp)]; rfl)
  clear ho hz
  go_enter Tryd.func77, Tryd.ntmps77
  go_wp2_with fail
  go_quiet (fail)
  go_wp2_with (go_at_call 108; refine (acode1_any v3 v3 d _).mono ?hk)
  case hk =>
    rintro e w2 ⟨v, rfl, hown, hB2⟩
    have HO := Lib.hid hown
    clear hown
    go_wp2_with fail
    go_ret2
    rw [HV.out]
    exact ⟨_, rfl, HO.out.base (bdrewN (form1 w _) _).size, (bdrewN (form1 w _) _).trans (hB2.mono (bdrewN (form1 w _) _).size)⟩
set_option maxRecDepth 20000 in
set_option maxHeartbeats 4000000 in
theorem acode_x (hP : PrAt w p TA tc text DA dc data at_ dat mb (.slice SA sizes.length sc)) (nm : Nat) (F : List UInt8 → Option Nat) (hM : SMap w mb nm F) (hS : Cs w.heap.size w SA (sizes.map (Value.int .i64))) (hl : sizes.length = text.length)
    (n : Nat) (hn : n < text.length) (ad : Nat) (hns : (text[n]).s.size ≤ maxLen) (hk : (text[n]).k ≠ 2 ∧ (text[n]).k ≠ 3 ∧ (text[n]).k ≠ 4 ∧ (text[n]).k ≠ 5 ∧ (text[n]).k ≠ 6 ∧ (text[n]).k ≠ 7) :
    Calls Tryd.prog 77 #[.pointer (some ⟨p, 0, none⟩), .int .i64 (n : Int), .int .u64 (ad : Int)] w (CodeTo (codeM text[n] (sizes[n]'(by omega)) (distM F (text[n]).s ad)) w) := by
  have hlt := lt_of_block hP.str
  have c0 : w.cell? ⟨p, 0, none⟩ = some (.slice TA text.length tc) := hP.cell 0
  have c4 : w.cell? ⟨p, 4, none⟩ = some (.map (some mb)) := hP.cell 4
  have c5 : w.cell? ⟨p, 5, none⟩ = some (.slice SA sizes.length sc) := hP.cell 5
  obtain ⟨b, o, rfl, hb, x0, x1, x2, x3, x4, x5, x6⟩ := item_at hP.tx n hn
  obtain ⟨b2, o2, rfl, hb2, y0⟩ := hS n (by simp; omega)
  simp only [List.getElem_map] at y0
  have htl := hP.tl
  have hML := fun (X : Obj) (j : Nat) => ((hM.below (form1 w X)).keep (w' := (w.alloc X).drewN j) rfl).look _ hns
  have hML0 := fun (X : Obj) => (hM.below (form1 w X)).look _ hns
  have hmb := hM.lt
  generalize hd : distM F (text[n]).s ad = d at *
  unfold distM at hd
  have tt : decide ((n : Int) < (text.length : Int)) = true := decide_eq_true (by omega)
  have hnl : (n : Int) < (text.length : Int) := by omega
  have hnl2 : (n : Int) < (sizes.length : Int) := by omega
  have hn2 : n < sizes.length := by omega
  generalize sizes[n] = sz at *
  clear hP hM hS hl
  generalize text[n] = x at *
  obtain ⟨v0, v1, v2, v3, v4, v5, v6⟩ := x
  try simp only at x0 x1 x2 x3 x4 x5 x6 hd hns hML hML0 hk
  generalize (F v1.data.toList).getD 0 = q at *
  obtain ⟨h2, h3, h4, h5, h6, h7⟩ := hk
  have k2 : (v0 == 2) = false := by simpa using h2
  have k3 : (v0 == 3) = false := by simpa using h3
  have k4 : (v0 == 4) = false := by simpa using h4
  have k5 : (v0 == 5) = false := by simpa using h5
  have k6 : (v0 == 6) = false := by simpa using h6
  have k7 : (v0 == 7) = false := by simpa using h7
  have HV := Lib.hid (show codeM ⟨v0, v1, v2, v3, v4, v5, v6⟩ sz d = ([], true) by unfold codeM; rw [if_neg (fun c => by rcases c.1 with c | c | c; exact h5 c; exact h6 c; exact h7 c), if_neg h2, if_neg h3, if_neg h4, if_neg (fun c => by rcases c with c | c; exact h5 c; exact h6 c), if_neg h7])
  clear h2 h3 h4 h5 h6 h7
  go_enter Tryd.func77, Tryd.ntmps77
  go_wp2_with fail
  go_quiet (fail)
  go_wp2_with fail
  go_ret2
  rw [HV.out]
  exact ⟨_, rfl, OwnI.nil _ _, bdrewN (form1 w _) _⟩
set_option maxRecDepth 20000 in
set_option maxHeartbeats 4000000 in
theorem acode_7_4 (hP : PrAt w p TA tc text DA dc data at_ dat mb (.slice SA sizes.length sc)) (nm : Nat) (F : List UInt8 → Option Nat) (hM : SMap w mb nm F) (hS : Cs w.heap.size w SA (sizes.map (Value.int .i64))) (hl : sizes.length = text.length)
    (n : Nat) (hn : n < text.length) (ad : Nat) (hns : (text[n]).s.size ≤ maxLen) (hk : (text[n]).k = 7) (ho : distM F (text[n]).s ad % 2 = 0) (hz : sizes[n]'(by omega) = 4) :
    Calls Tryd.prog 77 #[.pointer (some ⟨p, 0, none⟩), .int .i64 (n : Int), .int .u64 (ad : Int)] w (CodeTo (codeM text[n] (sizes[n]'(by omega)) (distM F (text[n]).s ad)) w) := by
  have hlt := lt_of_block hP.str
  have c0 : w.cell? ⟨p, 0, none⟩ = some (.slice TA text.length tc) := hP.cell 0
  have c4 : w.cell? ⟨p, 4, none⟩ = some (.map (some mb)) := hP.cell 4
  have c5 : w.cell? ⟨p, 5, none⟩ = some (.slice SA sizes.length sc) := hP.cell 5
  obtain ⟨b, o, rfl, hb, x0, x1, x2, x3, x4, x5, x6⟩ := item_at hP.tx n hn
  obtain ⟨b2, o2, rfl, hb2, y0⟩ := hS n (by simp; omega)
  simp only [List.getElem_map] at y0
  have htl := hP.tl
  have hML := fun (X : Obj) (j : Nat) => ((hM.below (form1 w X)).keep (w' := (w.alloc X).drewN j) rfl).look _ hns
  have hML0 := fun (X : Obj) => (hM.below (form1 w X)).look _ hns
  have hmb := hM.lt
  generalize hd : distM F (text[n]).s ad = d at *
  unfold distM at hd
  have tt : decide ((n : Int) < (text.length : Int)) = true := decide_eq_true (by omega)
  have hnl : (n : Int) < (text.length : Int) := by omega
  have hnl2 : (n : Int) < (sizes.length : Int) := by omega
  have hn2 : n < sizes.length := by omega
  generalize sizes[n] = sz at *
  clear hP hM hS hl
  generalize text[n] = x at *
  obtain ⟨v0, v1, v2, v3, v4, v5, v6⟩ := x
  try simp only at x0 x1 x2 x3 x4 x5 x6 hd hns hML hML0 hk ho hz
  generalize (F v1.data.toList).getD 0 = q at *
  subst hk
  subst hz
  have to : (d.tmod 2 != 0) = false := by rw [bne_eq_false_iff_eq, tmodTwo]; exact ho
  have HV := Lib.hid (show codeM ⟨7, v1, v2, v3, v4, v5, v6⟩ 4 d = ([⟨v2, v3, v4, v5, d⟩], true) by unfold codeM; rw [if_neg (fun c => c.2 ho), if_neg (by simp), if_neg (by simp), if_neg (by simp), if_neg (by simp), if_pos rfl, if_pos rfl])
  clear ho
  go_enter Tryd.func77, Tryd.ntmps77
  go_wp2_with fail
  go_quiet (fail)
  go_wp2_with fail
  go_ret2
  rw [HV.out]
  exact ⟨_, rfl, own_at (by rw [size_alN2]; omega) (size_alN2 w _ _ _) ⟨v2, v3, v4, v5, d⟩, belowN2 w _ _ _ _⟩
set_option maxRecDepth 20000 in
set_option maxHeartbeats 4000000 in
theorem acode_7_8 (hP : PrAt w p TA tc text DA dc data at_ dat mb (.slice SA sizes.length sc)) (nm : Nat) (F : List UInt8 → Option Nat) (hM : SMap w mb nm F) (hS : Cs w.heap.size w SA (sizes.map (Value.int .i64))) (hl : sizes.length = text.length)
    (n : Nat) (hn : n < text.length) (ad : Nat) (hns : (text[n]).s.size ≤ maxLen) (hk : (text[n]).k = 7) (ho : distM F (text[n]).s ad % 2 = 0) (hz : sizes[n]'(by omega) = 8) (hop : 5 ≤ (text[n]).op ∧ (text[n]).op ≤ 10) :
    Calls Tryd.prog 77 #[.pointer (some ⟨p, 0, none⟩), .int .i64 (n : Int), .int .u64 (ad : Int)] w (CodeTo (codeM text[n] (sizes[n]'(by omega)) (distM F (text[n]).s ad)) w) := by
  have hlt := lt_of_block hP.str
  have c0 : w.cell? ⟨p, 0, none⟩ = some (.slice TA text.length tc) := hP.cell 0
  have c4 : w.cell? ⟨p, 4, none⟩ = some (.map (some mb)) := hP.cell 4
  have c5 : w.cell? ⟨p, 5, none⟩ = some (.slice SA sizes.length sc) := hP.cell 5
  obtain ⟨b, o, rfl, hb, x0, x1, x2, x3, x4, x5, x6⟩ := item_at hP.tx n hn
  obtain ⟨b2, o2, rfl, hb2, y0⟩ := hS n (by simp; omega)
  simp only [List.getElem_map] at y0
  have htl := hP.tl
  have hML := fun (X : Obj) (j : Nat) => ((hM.below (form1 w X)).keep (w' := (w.alloc X).drewN j) rfl).look _ hns
  have hML0 := fun (X : Obj) => (hM.below (form1 w X)).look _ hns
  have hmb := hM.lt
  generalize hd : distM F (text[n]).s ad = d at *
  unfold distM at hd
  have tt : decide ((n : Int) < (text.length : Int)) = true := decide_eq_true (by omega)
  have hnl : (n : Int) < (text.length : Int) := by omega
  have hnl2 : (n : Int) < (sizes.length : Int) := by omega
  have hn2 : n < sizes.length := by omega
  generalize sizes[n] = sz at *
  clear hP hM hS hl
  generalize text[n] = x at *
  obtain ⟨v0, v1, v2, v3, v4, v5, v6⟩ := x
  try simp only at x0 x1 x2 x3 x4 x5 x6 hd hns hML hML0 hk ho hz hop
  generalize (F v1.data.toList).getD 0 = q at *
  subst hk
  subst hz
  have to : (d.tmod 2 != 0) = false := by rw [bne_eq_false_iff_eq, tmodTwo]; exact ho
  have HV := Lib.hid (show codeM ⟨7, v1, v2, v3, v4, v5, v6⟩ 8 d = ([⟨turnM v2, v3, v4, v5, 8⟩, ⟨3, 0, 0, 0, wrap64 (d - 4)⟩], true) by unfold codeM; rw [if_neg (fun c => c.2 ho), if_neg (by simp), if_neg (by simp), if_neg (by simp), if_neg (by simp), if_pos rfl, if_neg (by simp), if_pos rfl])
  clear ho
  have HA := Lib.hid (fun W => aturned_any v2 hop W)
  generalize turnM v2 = tn at *
  clear hop
  go_enter Tryd.func77, Tryd.ntmps77
  go_wp2_with fail
  go_quiet (fail)
  go_wp2_with fail
  go_region_law (first | (go_simp; go_at_call 112; refine (HA.out _).mono ?_; rintro e w' ⟨rfl, rfl⟩))
  all_goals
    go_wp2_with fail
    go_ret2
    rw [HV.out]
    exact ⟨_, rfl, (own_at2 (by rw [size_alN2]; omega) (size_alN2 w _ _ _) ⟨tn, v3, v4, v5, 8⟩ ⟨3, 0, 0, 0, wrap64 (d - 4)⟩).below (Below.refl _ _).drew, (belowN2 w _ _ _ _).drew⟩
set_option maxRecDepth 20000 in
set_option maxHeartbeats 4000000 in
theorem acode_7_12 (hP : PrAt w p TA tc text DA dc data at_ dat mb (.slice SA sizes.length sc)) (nm : Nat) (F : List UInt8 → Option Nat) (hM : SMap w mb nm F) (hS : Cs w.heap.size w SA (sizes.map (Value.int .i64))) (hl : sizes.length = text.length)
    (n : Nat) (hn : n < text.length) (ad : Nat) (hns : (text[n]).s.size ≤ maxLen) (hk : (text[n]).k = 7) (ho : distM F (text[n]).s ad % 2 = 0) (hz : sizes[n]'(by omega) ≠ 4) (hz8 : sizes[n]'(by omega) ≠ 8) (hop : 5 ≤ (text[n]).op ∧ (text[n]).op ≤ 10) :
    Calls Tryd.prog 77 #[.pointer (some ⟨p, 0, none⟩), .int .i64 (n : Int), .int .u64 (ad : Int)] w (CodeTo (codeM text[n] (sizes[n]'(by omega)) (distM F (text[n]).s ad)) w) := by
  have hlt := lt_of_block hP.str
  have c0 : w.cell? ⟨p, 0, none⟩ = some (.slice TA text.length tc) := hP.cell 0
  have c4 : w.cell? ⟨p, 4, none⟩ = some (.map (some mb)) := hP.cell 4
  have c5 : w.cell? ⟨p, 5, none⟩ = some (.slice SA sizes.length sc) := hP.cell 5
  obtain ⟨b, o, rfl, hb, x0, x1, x2, x3, x4, x5, x6⟩ := item_at hP.tx n hn
  obtain ⟨b2, o2, rfl, hb2, y0⟩ := hS n (by simp; omega)
  simp only [List.getElem_map] at y0
  have htl := hP.tl
  have hML := fun (X : Obj) (j : Nat) => ((hM.below (form1 w X)).keep (w' := (w.alloc X).drewN j) rfl).look _ hns
  have hML0 := fun (X : Obj) => (hM.below (form1 w X)).look _ hns
  have hmb := hM.lt
  generalize hd : distM F (text[n]).s ad = d at *
  unfold distM at hd
  have tt : decide ((n : Int) < (text.length : Int)) = true := decide_eq_true (by omega)
  have hnl : (n : Int) < (text.length : Int) := by omega
  have hnl2 : (n : Int) < (sizes.length : Int) := by omega
  have hn2 : n < sizes.length := by omega
  generalize sizes[n] = sz at *
  clear hP hM hS hl
  generalize text[n] = x at *
  obtain ⟨v0, v1, v2, v3, v4, v5, v6⟩ := x
  try simp only at x0 x1 x2 x3 x4 x5 x6 hd hns hML hML0 hk ho hz hz8 hop
  generalize (F v1.data.toList).getD 0 = q at *
  subst hk
  have tz : (sz == 4) = false := by simpa using hz
  have tz8 : (sz == 8) = false := by simpa using hz8
  have to : (d.tmod 2 != 0) = false := by rw [bne_eq_false_iff_eq, tmodTwo]; exact ho
  have HV := Lib.hid (show codeM ⟨7, v1, v2, v3, v4, v5, v6⟩ sz d = (⟨turnM v2, v3, v4, v5, sz⟩ :: [⟨2, 6, 0, 0, farH (wrap64 (d - 4))⟩, ⟨4, 0, 6, 0, restI (wrap64 (d - 4))⟩], farB (wrap64 (d - 4))) by unfold codeM; rw [if_neg (fun c => c.2 ho), if_neg (by simp), if_neg (by simp), if_neg (by simp), if_neg (by simp), if_pos rfl, if_neg hz, if_neg hz8]; rfl)
  clear ho hz hz8
  have HA := Lib.hid (fun W => aturned_any v2 hop W)
  generalize turnM v2 = tn at *
  clear hop
  go_enter Tryd.func77, Tryd.ntmps77
  go_wp2_with fail
  go_quiet (fail)
  go_wp2_with fail
  go_region_law (first | (go_simp; go_at_call 112; refine (HA.out _).mono ?_; rintro e w' ⟨rfl, rfl⟩))
  all_goals
    go_wp2_with fail
    refine Calls.mono (acode1_any 0 6 _ _) ?_
    rintro e w2 ⟨v, rfl, hown, hB2⟩
    have hB1 := (belowN1 w _ _ _).drew.trans (hB2.mono (belowN1 w _ _ _).drew.size)
    have hY := (hB2.block (w.heap.size + 1) (show w.heap.size + 1 < (World.alloc _ _).heap.size by rw [size_alN2]; omega)).trans (blockN2 w _ _ _)
    have hs2 : w.heap.size + 1 < w2.heap.size := lt_of_block hY
    obtain ⟨A, c, rfl, hc⟩ := hown.form
    have q0 : w2.cell? ⟨w.heap.size + 1, 0, none⟩ = some (.int .i64 tn) := (obj_cell hY 0).trans rfl
    have q1 : w2.cell? ⟨w.heap.size + 1, 1, none⟩ = some (.int .i64 v3) := (obj_cell hY 1).trans rfl
    have q2 : w2.cell? ⟨w.heap.size + 1, 2, none⟩ = some (.int .i64 v4) := (obj_cell hY 2).trans rfl
    have q3 : w2.cell? ⟨w.heap.size + 1, 3, none⟩ = some (.int .i64 v5) := (obj_cell hY 3).trans rfl
    have q4 : w2.cell? ⟨w.heap.size + 1, 4, none⟩ = some (.int .i64 sz) := (obj_cell hY 4).trans rfl
    have HC := Lib.hid (And.intro hc hB1)
    clear hown hY hc hB1 hB2
    go_wp2_with (at_builtin; refine wpList_appI _ rfl _ _ rfl w.heap.size _ [⟨tn, v3, v4, v5, sz⟩] rfl (own_at (by omega) rfl ⟨tn, v3, v4, v5, sz⟩) _ A 2 c [⟨2, 6, 0, 0, farH (wrap64 (d - 4))⟩, ⟨4, 0, 6, 0, restI (wrap64 (d - 4))⟩] rfl rfl (HC.out.1.below (form1 w2 _)) (by simp) (by rw [World.size_alloc]; omega) ?_; intro v' w3 hown3 hB3 hK3)
    have HO := Lib.hid (And.intro hown3 (hB3 w (HC.out.2.alloc HC.out.2.size _)))
    clear hown3 hB3 hK3
    go_wp2_with fail
    go_ret2
    rw [HV.out]
    exact ⟨_, rfl, HO.out.1, HO.out.2⟩
theorem acode_any (hP : PrAt w p TA tc text DA dc data at_ dat mb (.slice SA sizes.length sc)) (nm : Nat) (F : List UInt8 → Option Nat) (hM : SMap w mb nm F) (hS : Cs w.heap.size w SA (sizes.map (Value.int .i64))) (hl : sizes.length = text.length)
    (n : Nat) (hn : n < text.length) (ad : Nat) (hns : (text[n]).s.size ≤ maxLen) (hT : TzTab w) (hr : -9223372036854775808 ≤ (text[n]).n ∧ (text[n]).n < 9223372036854775808) (hop : (text[n]).k = 7 → 5 ≤ (text[n]).op ∧ (text[n]).op ≤ 10) :
    Calls Tryd.prog 77 #[.pointer (some ⟨p, 0, none⟩), .int .i64 (n : Int), .int .u64 (ad : Int)] w (CodeTo (codeM text[n] (sizes[n]'(by omega)) (distM F (text[n]).s ad)) w) := by
  by_cases h2 : (text[n]).k = 2
  · exact acode_2 w p TA tc text DA dc data at_ dat mb SA sc sizes hP nm F hM hS hl n hn ad hns h2
  · by_cases h3 : (text[n]).k = 3
    · exact acode_3 w p TA tc text DA dc data at_ dat mb SA sc sizes hP nm F hM hS hl n hn ad hns h3 hT hr
    · by_cases h4 : (text[n]).k = 4
      · exact acode_4 w p TA tc text DA dc data at_ dat mb SA sc sizes hP nm F hM hS hl n hn ad hns h4
      · by_cases h5 : (text[n]).k = 5
        · by_cases ho : distM F (text[n]).s ad % 2 = 0
          · by_cases hz : sizes[n]'(by omega) = 4
            · exact acode_5_4 w p TA tc text DA dc data at_ dat mb SA sc sizes hP nm F hM hS hl n hn ad hns h5 ho hz
            · exact acode_5_8 w p TA tc text DA dc data at_ dat mb SA sc sizes hP nm F hM hS hl n hn ad hns h5 ho hz
          · exact acode_odd5 w p TA tc text DA dc data at_ dat mb SA sc sizes hP nm F hM hS hl n hn ad hns h5 ho
        · by_cases h6 : (text[n]).k = 6
          · by_cases ho : distM F (text[n]).s ad % 2 = 0
            · by_cases hz : sizes[n]'(by omega) = 4
              · exact acode_6_4 w p TA tc text DA dc data at_ dat mb SA sc sizes hP nm F hM hS hl n hn ad hns h6 ho hz
              · exact acode_6_8 w p TA tc text DA dc data at_ dat mb SA sc sizes hP nm F hM hS hl n hn ad hns h6 ho hz
            · exact acode_odd6 w p TA tc text DA dc data at_ dat mb SA sc sizes hP nm F hM hS hl n hn ad hns h6 ho
          · by_cases h7 : (text[n]).k = 7
            · by_cases ho : distM F (text[n]).s ad % 2 = 0
              · by_cases hz : sizes[n]'(by omega) = 4
                · exact acode_7_4 w p TA tc text DA dc data at_ dat mb SA sc sizes hP nm F hM hS hl n hn ad hns h7 ho hz
                · by_cases hz8 : sizes[n]'(by omega) = 8
                  · exact acode_7_8 w p TA tc text DA dc data at_ dat mb SA sc sizes hP nm F hM hS hl n hn ad hns h7 ho hz8 (hop h7)
                  · exact acode_7_12 w p TA tc text DA dc data at_ dat mb SA sc sizes hP nm F hM hS hl n hn ad hns h7 ho hz hz8 (hop h7)
              · exact acode_odd7 w p TA tc text DA dc data at_ dat mb SA sc sizes hP nm F hM hS hl n hn ad hns h7 ho
            · exact acode_x w p TA tc text DA dc data at_ dat mb SA sc sizes hP nm F hM hS hl n hn ad hns ⟨h2, h3, h4, h5, h6, h7⟩
end
end Go.Proofs
