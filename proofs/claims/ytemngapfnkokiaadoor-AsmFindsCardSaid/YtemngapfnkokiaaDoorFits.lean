/- (*program).fits: does an item reach its label, as long as it is? -/
import Derived.Test.YtemngapfnkokiaaDoorItems
import Derived.Test.YtemngapfnkokiaaDoorSMap
import Derived.Test.YtemngapfnkokiaaDoorFindL
import Derived.BigQuiet
import Derived.Deep.QuietTactic
namespace Go.Pat
open Go Go.RowKit
/-- how far an item's label is. -/
def distM (F : List UInt8 → Option Nat) (s : ByteArray) (at_ : Nat) : Int := wrap64 (IntKind.u64.wrap (((F s.data.toList).getD 0 : Nat) - (at_ : Int)))
def fitsM (k size d : Int) : Bool :=
  if k = 7 ∧ size = 4 then Go.Proofs.reachB d 4096 else if k = 7 ∧ size = 8 then Go.Proofs.reachB (wrap64 (d - 4)) 1048576 else if (k = 5 ∨ k = 6) ∧ size = 4 then Go.Proofs.reachB d 1048576 else true
end Go.Pat
namespace Go.Proofs
open Go Go.RowKit Go.Pat
section
variable (w : World) (p : Nat) (TA : Option Addr) (tc : Nat) (text : List It) (DA : Option Addr) (dc : Nat) (data : List It) (at_ dat mb : Nat) (SA : Option Addr) (sc : Nat) (sizes : List Int)
set_option maxRecDepth 20000 in
set_option maxHeartbeats 4000000 in
theorem afits_7 (hP : PrAt w p TA tc text DA dc data at_ dat mb (.slice SA sizes.length sc)) (nm : Nat) (F : List UInt8 → Option Nat) (hM : SMap w mb nm F) (hS : Cs w.heap.size w SA (sizes.map (Value.int .i64))) (hl : sizes.length = text.length)
    (n : Nat) (hn : n < text.length) (ad : Nat) (hns : (text[n]).s.size ≤ maxLen) (hk : (text[n]).k = 7) :
    Calls Tryd.prog 76 #[.pointer (some ⟨p, 0, none⟩), .int .i64 (n : Int), .int .u64 (ad : Int)] w fun e w' => e = .returned (.bool (fitsM (text[n]).k (sizes[n]'(by omega)) (distM F (text[n]).s ad))) ∧ Below w.heap.size w w' := by
  have hlt := lt_of_block hP.str
  have c0 : w.cell? ⟨p, 0, none⟩ = some (.slice TA text.length tc) := hP.cell 0
  have c4 : w.cell? ⟨p, 4, none⟩ = some (.map (some mb)) := hP.cell 4
  have c5 : w.cell? ⟨p, 5, none⟩ = some (.slice SA sizes.length sc) := hP.cell 5
  obtain ⟨b, o, rfl, hb, x0, x1, x2, x3, x4, x5, x6⟩ := item_at hP.tx n hn
  obtain ⟨b2, o2, rfl, hb2, y0⟩ := hS n (by simp; omega)
  simp only [List.getElem_map] at y0
  have htl := hP.tl
  have hML := fun (X : Obj) (j : Nat) => ((hM.below (form1 w X)).keep (w' := (w.alloc X).drewN j) rfl).look _ hns
  have hML0 := fun (X : Obj) => (hM.below (form1 w X)).look _ hns
  have hmb := hM.lt
  unfold distM
  rw [hk] at x0 ⊢
  clear hk
  generalize text[n].s = v1 at *
  generalize text[n].op = v2 at *
  generalize text[n].rd = v3 at *
  generalize text[n].a = v4 at *
  generalize text[n].b = v5 at *
  generalize text[n].n = v6 at *
  generalize sizes[n] = sz at *
  generalize (F v1.data.toList).getD 0 = q at *
  have tt : decide ((n : Int) < (text.length : Int)) = true := decide_eq_true (by omega)
  have hnl : (n : Int) < (text.length : Int) := by omega
  have hnl2 : (n : Int) < (sizes.length : Int) := by omega
  have hn2 : n < sizes.length := by omega
  clear hP hM hS
  obtain ⟨d, hd⟩ : ∃ d, wrap64 (IntKind.u64.wrap ((q : Int) - (ad : Int))) = d := ⟨_, rfl⟩
  rw [hd]
  cases t4 : (sz == 4)
  · have n4 : ¬ sz = 4 := by simpa using t4
    cases t8 : (sz == 8)
    · have n8 : ¬ sz = 8 := by simpa using t8
      have HV := Lib.hid (show fitsM 7 sz d = true by unfold fitsM; simp [n4, n8])
      go_enter Tryd.func76, Tryd.ntmps76
      go_wp2
      go_quiet (fail)
      go_wp2_with (go_at_call 107; (with_reducible refine (areach_any _ _ (by decide) (by decide) _).mono ?_); rintro e w' ⟨rfl, rfl⟩)
      go_ret
      exact ⟨by rw [HV.out]; rfl, bdrewN (form1 w _) _⟩
    · have n8 : sz = 8 := by simpa using t8
      have HV0 := Lib.hid (show fitsM 7 sz d = reachB (wrap64 (d - 4)) 1048576 by unfold fitsM; simp [n8])
      clear n8 n4
      have HV := Lib.hid (show fitsM 7 sz d = reachB (wrap64 (d - 4)) 1048576 by exact HV0.out)
      go_enter Tryd.func76, Tryd.ntmps76
      go_wp2
      go_quiet (fail)
      go_wp2_with (go_at_call 107; (with_reducible refine (areach_any _ _ (by decide) (by decide) _).mono ?_); rintro e w' ⟨rfl, rfl⟩)
      go_ret
      exact ⟨by rw [HV.out]; rfl, bdrewN (form1 w _) _⟩
  · have n4 : sz = 4 := by simpa using t4
    have HV0 := Lib.hid (show fitsM 7 sz d = reachB d 4096 by unfold fitsM; simp [n4])
    clear n4
    have HV := Lib.hid (show fitsM 7 sz d = reachB d 4096 by exact HV0.out)
    go_enter Tryd.func76, Tryd.ntmps76
    go_wp2
    go_quiet (fail)
    go_wp2_with (go_at_call 107; (with_reducible refine (areach_any _ _ (by decide) (by decide) _).mono ?_); rintro e w' ⟨rfl, rfl⟩)
    go_ret
    exact ⟨by rw [HV.out]; rfl, bdrewN (form1 w _) _⟩
set_option maxRecDepth 20000 in
set_option maxHeartbeats 4000000 in
theorem afits_5 (hP : PrAt w p TA tc text DA dc data at_ dat mb (.slice SA sizes.length sc)) (nm : Nat) (F : List UInt8 → Option Nat) (hM : SMap w mb nm F) (hS : Cs w.heap.size w SA (sizes.map (Value.int .i64))) (hl : sizes.length = text.length)
    (n : Nat) (hn : n < text.length) (ad : Nat) (hns : (text[n]).s.size ≤ maxLen) (hk : (text[n]).k = 5) :
    Calls Tryd.prog 76 #[.pointer (some ⟨p, 0, none⟩), .int .i64 (n : Int), .int .u64 (ad : Int)] w fun e w' => e = .returned (.bool (fitsM (text[n]).k (sizes[n]'(by omega)) (distM F (text[n]).s ad))) ∧ Below w.heap.size w w' := by
  have hlt := lt_of_block hP.str
  have c0 : w.cell? ⟨p, 0, none⟩ = some (.slice TA text.length tc) := hP.cell 0
  have c4 : w.cell? ⟨p, 4, none⟩ = some (.map (some mb)) := hP.cell 4
  have c5 : w.cell? ⟨p, 5, none⟩ = some (.slice SA sizes.length sc) := hP.cell 5
  obtain ⟨b, o, rfl, hb, x0, x1, x2, x3, x4, x5, x6⟩ := item_at hP.tx n hn
  obtain ⟨b2, o2, rfl, hb2, y0⟩ := hS n (by simp; omega)
  simp only [List.getElem_map] at y0
  have htl := hP.tl
  have hML := fun (X : Obj) (j : Nat) => ((hM.below (form1 w X)).keep (w' := (w.alloc X).drewN j) rfl).look _ hns
  have hML0 := fun (X : Obj) => (hM.below (form1 w X)).look _ hns
  have hmb := hM.lt
  unfold distM
  rw [hk] at x0 ⊢
  clear hk
  generalize text[n].s = v1 at *
  generalize text[n].op = v2 at *
  generalize text[n].rd = v3 at *
  generalize text[n].a = v4 at *
  generalize text[n].b = v5 at *
  generalize text[n].n = v6 at *
  generalize sizes[n] = sz at *
  generalize (F v1.data.toList).getD 0 = q at *
  have tt : decide ((n : Int) < (text.length : Int)) = true := decide_eq_true (by omega)
  have hnl : (n : Int) < (text.length : Int) := by omega
  have hnl2 : (n : Int) < (sizes.length : Int) := by omega
  have hn2 : n < sizes.length := by omega
  clear hP hM hS
  obtain ⟨d, hd⟩ : ∃ d, wrap64 (IntKind.u64.wrap ((q : Int) - (ad : Int))) = d := ⟨_, rfl⟩
  rw [hd]
  cases t4 : (sz == 4)
  · have n4 : ¬ sz = 4 := by simpa using t4
    have HV := Lib.hid (show fitsM 5 sz d = true by unfold fitsM; simp [n4])
    go_enter Tryd.func76, Tryd.ntmps76
    go_wp2
    go_quiet (fail)
    go_wp2_with (go_at_call 107; (with_reducible refine (areach_any _ _ (by decide) (by decide) _).mono ?_); rintro e w' ⟨rfl, rfl⟩)
    go_ret
    exact ⟨by rw [HV.out]; rfl, bdrewN (form1 w _) _⟩
  · have n4 : sz = 4 := by simpa using t4
    have HV0 := Lib.hid (show fitsM 5 sz d = reachB d 1048576 by unfold fitsM; simp [n4])
    clear n4
    have HV := Lib.hid (show fitsM 5 sz d = reachB d 1048576 by exact HV0.out)
    go_enter Tryd.func76, Tryd.ntmps76
    go_wp2
    go_quiet (fail)
    go_wp2_with (go_at_call 107; (with_reducible refine (areach_any _ _ (by decide) (by decide) _).mono ?_); rintro e w' ⟨rfl, rfl⟩)
    go_ret
    exact ⟨by rw [HV.out]; rfl, bdrewN (form1 w _) _⟩
set_option maxRecDepth 20000 in
set_option maxHeartbeats 4000000 in
theorem afits_6 (hP : PrAt w p TA tc text DA dc data at_ dat mb (.slice SA sizes.length sc)) (nm : Nat) (F : List UInt8 → Option Nat) (hM : SMap w mb nm F) (hS : Cs w.heap.size w SA (sizes.map (Value.int .i64))) (hl : sizes.length = text.length)
    (n : Nat) (hn : n < text.length) (ad : Nat) (hns : (text[n]).s.size ≤ maxLen) (hk : (text[n]).k = 6) :
    Calls Tryd.prog 76 #[.pointer (some ⟨p, 0, none⟩), .int .i64 (n : Int), .int .u64 (ad : Int)] w fun e w' => e = .returned (.bool (fitsM (text[n]).k (sizes[n]'(by omega)) (distM F (text[n]).s ad))) ∧ Below w.heap.size w w' := by
  have hlt := lt_of_block hP.str
  have c0 : w.cell? ⟨p, 0, none⟩ = some (.slice TA text.length tc) := hP.cell 0
  have c4 : w.cell? ⟨p, 4, none⟩ = some (.map (some mb)) := hP.cell 4
  have c5 : w.cell? ⟨p, 5, none⟩ = some (.slice SA sizes.length sc) := hP.cell 5
  obtain ⟨b, o, rfl, hb, x0, x1, x2, x3, x4, x5, x6⟩ := item_at hP.tx n hn
  obtain ⟨b2, o2, rfl, hb2, y0⟩ := hS n (by simp; omega)
  simp only [List.getElem_map] at y0
  have htl := hP.tl
  have hML := fun (X : Obj) (j : Nat) => ((hM.below (form1 w X)).keep (w' := (w.alloc X).drewN j) rfl).look _ hns
  have hML0 := fun (X : Obj) => (hM.below (form1 w X)).look _ hns
  have hmb := hM.lt
  unfold distM
  rw [hk] at x0 ⊢
  clear hk
  generalize text[n].s = v1 at *
  generalize text[n].op = v2 at *
  generalize text[n].rd = v3 at *
  generalize text[n].a = v4 at *
  generalize text[n].b = v5 at *
  generalize text[n].n = v6 at *
  generalize sizes[n] = sz at *
  generalize (F v1.data.toList).getD 0 = q at *
  have tt : decide ((n : Int) < (text.length : Int)) = true := decide_eq_true (by omega)
  have hnl : (n : Int) < (text.length : Int) := by omega
  have hnl2 : (n : Int) < (sizes.length : Int) := by omega
  have hn2 : n < sizes.length := by omega
  clear hP hM hS
  obtain ⟨d, hd⟩ : ∃ d, wrap64 (IntKind.u64.wrap ((q : Int) - (ad : Int))) = d := ⟨_, rfl⟩
  rw [hd]
  cases t4 : (sz == 4)
  · have n4 : ¬ sz = 4 := by simpa using t4
    have HV := Lib.hid (show fitsM 6 sz d = true by unfold fitsM; simp [n4])
    go_enter Tryd.func76, Tryd.ntmps76
    go_wp2
    go_quiet (fail)
    go_wp2_with (go_at_call 107; (with_reducible refine (areach_any _ _ (by decide) (by decide) _).mono ?_); rintro e w' ⟨rfl, rfl⟩)
    go_ret
    exact ⟨by rw [HV.out]; rfl, bdrewN (form1 w _) _⟩
  · have n4 : sz = 4 := by simpa using t4
    have HV0 := Lib.hid (show fitsM 6 sz d = reachB d 1048576 by unfold fitsM; simp [n4])
    clear n4
    have HV := Lib.hid (show fitsM 6 sz d = reachB d 1048576 by exact HV0.out)
    go_enter Tryd.func76, Tryd.ntmps76
    go_wp2
    go_quiet (fail)
    go_wp2_with (go_at_call 107; (with_reducible refine (areach_any _ _ (by decide) (by decide) _).mono ?_); rintro e w' ⟨rfl, rfl⟩)
    go_ret
    exact ⟨by rw [HV.out]; rfl, bdrewN (form1 w _) _⟩
set_option maxRecDepth 20000 in
set_option maxHeartbeats 4000000 in
theorem afits_x (hP : PrAt w p TA tc text DA dc data at_ dat mb (.slice SA sizes.length sc)) (nm : Nat) (F : List UInt8 → Option Nat) (hM : SMap w mb nm F) (hS : Cs w.heap.size w SA (sizes.map (Value.int .i64))) (hl : sizes.length = text.length)
    (n : Nat) (hn : n < text.length) (ad : Nat) (hns : (text[n]).s.size ≤ maxLen) (h5 : (text[n]).k ≠ 5) (h6 : (text[n]).k ≠ 6) (h7 : (text[n]).k ≠ 7) :
    Calls Tryd.prog 76 #[.pointer (some ⟨p, 0, none⟩), .int .i64 (n : Int), .int .u64 (ad : Int)] w fun e w' => e = .returned (.bool (fitsM (text[n]).k (sizes[n]'(by omega)) (distM F (text[n]).s ad))) ∧ Below w.heap.size w w' := by
  have hlt := lt_of_block hP.str
  have c0 : w.cell? ⟨p, 0, none⟩ = some (.slice TA text.length tc) := hP.cell 0
  have c4 : w.cell? ⟨p, 4, none⟩ = some (.map (some mb)) := hP.cell 4
  have c5 : w.cell? ⟨p, 5, none⟩ = some (.slice SA sizes.length sc) := hP.cell 5
  obtain ⟨b, o, rfl, hb, x0, x1, x2, x3, x4, x5, x6⟩ := item_at hP.tx n hn
  obtain ⟨b2, o2, rfl, hb2, y0⟩ := hS n (by simp; omega)
  simp only [List.getElem_map] at y0
  have htl := hP.tl
  have hML := fun (X : Obj) (j : Nat) => ((hM.below (form1 w X)).keep (w' := (w.alloc X).drewN j) rfl).look _ hns
  have hML0 := fun (X : Obj) => (hM.below (form1 w X)).look _ hns
  have hmb := hM.lt
  unfold distM
  generalize text[n].k = v0 at *
  have k5 : (v0 == 5) = false := by simpa using h5
  have k6 : (v0 == 6) = false := by simpa using h6
  have k7 : (v0 == 7) = false := by simpa using h7
  have HV0 := Lib.hid (fun (sz d : Int) => (show fitsM v0 sz d = true by unfold fitsM; simp [h5, h6, h7]))
  clear h5 h6 h7
  generalize text[n].s = v1 at *
  generalize text[n].op = v2 at *
  generalize text[n].rd = v3 at *
  generalize text[n].a = v4 at *
  generalize text[n].b = v5 at *
  generalize text[n].n = v6 at *
  generalize sizes[n] = sz at *
  generalize (F v1.data.toList).getD 0 = q at *
  have tt : decide ((n : Int) < (text.length : Int)) = true := decide_eq_true (by omega)
  have hnl : (n : Int) < (text.length : Int) := by omega
  have hnl2 : (n : Int) < (sizes.length : Int) := by omega
  have hn2 : n < sizes.length := by omega
  clear hP hM hS
  obtain ⟨d, hd⟩ : ∃ d, wrap64 (IntKind.u64.wrap ((q : Int) - (ad : Int))) = d := ⟨_, rfl⟩
  rw [hd]
  have HV := Lib.hid (show fitsM v0 sz d = true by exact HV0.out sz d)
  go_enter Tryd.func76, Tryd.ntmps76
  go_wp2
  go_quiet (fail)
  go_wp2_with (go_at_call 107; (with_reducible refine (areach_any _ _ (by decide) (by decide) _).mono ?_); rintro e w' ⟨rfl, rfl⟩)
  go_ret
  exact ⟨by rw [HV.out]; rfl, bdrewN (form1 w _) _⟩
theorem afits_any (hP : PrAt w p TA tc text DA dc data at_ dat mb (.slice SA sizes.length sc)) (nm : Nat) (F : List UInt8 → Option Nat) (hM : SMap w mb nm F) (hS : Cs w.heap.size w SA (sizes.map (Value.int .i64))) (hl : sizes.length = text.length)
    (n : Nat) (hn : n < text.length) (ad : Nat) (hns : (text[n]).s.size ≤ maxLen) :
    Calls Tryd.prog 76 #[.pointer (some ⟨p, 0, none⟩), .int .i64 (n : Int), .int .u64 (ad : Int)] w fun e w' => e = .returned (.bool (fitsM (text[n]).k (sizes[n]'(by omega)) (distM F (text[n]).s ad))) ∧ Below w.heap.size w w' := by
  by_cases h5 : (text[n]).k = 5
  · exact afits_5 w p TA tc text DA dc data at_ dat mb SA sc sizes hP nm F hM hS hl n hn ad hns h5
  · by_cases h6 : (text[n]).k = 6
    · exact afits_6 w p TA tc text DA dc data at_ dat mb SA sc sizes hP nm F hM hS hl n hn ad hns h6
    · by_cases h7 : (text[n]).k = 7
      · exact afits_7 w p TA tc text DA dc data at_ dat mb SA sc sizes hP nm F hM hS hl n hn ad hns h7
      · exact afits_x w p TA tc text DA dc data at_ dat mb SA sc sizes hP nm F hM hS hl n hn ad hns h5 h6 h7
end
end Go.Proofs
