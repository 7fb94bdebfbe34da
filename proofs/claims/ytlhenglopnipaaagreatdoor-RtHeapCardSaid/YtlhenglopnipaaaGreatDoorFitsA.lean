/- patina/asm.Find, patinaref05.Find: a label's address; patina/asm.reach, far, turned. -/
import Derived.Test.YtlhenglopnipaaaGreatDoorItemA
import Derived.BigQuiet
import Derived.Deep.QuietTactic
import Derived.Test.YtlhenglopnipaaaGreatDoorLiA
namespace Go.Pat
open Go Go.RowKit
/-- labels: their names and addresses. -/
abbrev Lab := ByteArray × Nat
def lcells : List Lab → List Value
  | [] => []
  | x :: r => [.string x.1, .int .u64 (x.2 : Int)] ++ lcells r
theorem lcells_length (l : List Lab) : (lcells l).length = l.length * 2 := by
  induction l with
  | nil => rfl
  | cons i r ih => simp [lcells, ih]; omega
theorem lcells_append (a b : List Lab) : lcells (a ++ b) = lcells a ++ lcells b := by
  induction a with
  | nil => rfl
  | cons i r ih => simp [lcells, ih]
theorem lcells_one (l : List Lab) : ∀ u ∈ lcells l, u.oneCell' = true := by
  induction l with
  | nil => intro u hu; cases hu
  | cons i r ih =>
    intro u hu
    simp only [lcells, List.cons_append, List.nil_append, List.mem_cons] at hu
    rcases hu with rfl | rfl | h
    · rfl
    · rfl
    · exact ih u h
theorem lcells_get (l : List Lab) (i : Nat) (hi : i < l.length) : (lcells l)[i * 2]? = some (.string l[i].1) ∧ (lcells l)[i * 2 + 1]? = some (.int .u64 (l[i].2 : Int)) := by
  induction l generalizing i with
  | nil => simp at hi
  | cons s r ih =>
    cases i with
    | zero => exact ⟨rfl, rfl⟩
    | succ i =>
      have h := ih i (by simpa using hi)
      rw [show (i + 1) * 2 = i * 2 + 1 + 1 by omega]
      simp only [lcells, List.cons_append, List.nil_append, List.getElem?_cons_succ, List.getElem_cons_succ]
      exact h
theorem lab_at {B : Nat} {w : World} {A : Option Addr} {l : List Lab} (h : Cs B w A (lcells l)) (k : Nat) (hk : k < l.length) :
    ∃ b o, A = some ⟨b, o, none⟩ ∧ b < B ∧ w.cell? ⟨b, o + k * 2, none⟩ = some (.string l[k].1) ∧ w.cell? ⟨b, o + k * 2 + 1, none⟩ = some (.int .u64 (l[k].2 : Int)) := by
  have hlen := lcells_length l
  obtain ⟨g0, g1⟩ := lcells_get l k hk
  obtain ⟨b, o, rfl, hb, h0⟩ := h (k * 2) (by omega)
  obtain ⟨b1, o1, e1, _, h1⟩ := h (k * 2 + 1) (by omega)
  cases e1
  rw [List.getElem?_eq_getElem (by omega)] at g0 g1
  exact ⟨b, o, rfl, hb, h0.trans g0, h1.trans g1⟩
/-- a label's address, and whether it is there. -/
def findM : List Lab → ByteArray → Nat × Bool
  | [], _ => (0, false)
  | x :: r, s => if x.1.toList = s.toList then (x.2, true) else findM r s
end Go.Pat
namespace Go.Proofs
open Go Go.RowKit Go.Pat
theorem findM_drop (l : List Lab) (s : ByteArray) (k : Nat) (hk : k < l.length) : findM (l.drop k) s = if l[k].1.toList = s.toList then (l[k].2, true) else findM (l.drop (k + 1)) s := by
  rw [List.drop_eq_getElem_cons hk]; rfl
set_option maxHeartbeats 4000000 in
theorem aFind_any (w : World) (T D : Value) (A : Option Addr) (n c : Nat) (l : List Lab) (s : ByteArray) (h : Cs w.heap.size w A (lcells l)) (hn : l.length = n) (hlen : n ≤ 9223372036854775807) :
    Calls Tryz.prog 22 #[.agg #[T, D, .slice A n c], .string s] w fun e w' => e = .returned (.tuple #[.int .u64 ((findM l s).1 : Int), .bool (findM l s).2]) ∧ Below w.heap.size w w' := by
  subst hn
  obtain ⟨W0, hW0⟩ : ∃ W0, W0 = w.alloc (.cells #[T, D, .slice A l.length c] 53) := ⟨_, rfl⟩
  have hb0 : Below w.heap.size w W0 := by rw [hW0]; exact form1 w _
  have hc0 : W0.heap[w.heap.size]? = some (.cells #[T, D, .slice A l.length c] 53 (0, 0)) := by rw [hW0]; exact heap_alloc_new w _
  have x2 : W0.cell? ⟨w.heap.size, 2, none⟩ = some (.slice A l.length c) := (obj_cell hc0 2).trans rfl
  have hl0 := h.below hb0
  have HW := Lib.hid hW0
  clear hW0 hc0
  go_enter Tryz.func22, Tryz.ntmps22
  go_upto_region 1 with fail
  rw [← HW.out]
  go_wp2_with fail
  go_loopw [11] (fun i wr => ∃ k : Nat, k ≤ l.length ∧ i = .int .i64 k ∧ findM (l.drop k) s = findM l s ∧ Below w.heap.size w wr) (fun i _ => l.length - (intOf i).toNat)
  case atStart => exact ⟨0, Nat.zero_le _, rfl, rfl, hb0⟩
  case round =>
    obtain ⟨k, hk, rfl, hd, hB⟩ := hrel
    by_cases hlt : k < l.length
    · have t1 : decide ((k : Int) < (l.length : Int)) = true := decide_eq_true (by omega)
      obtain ⟨b, o, rfl, hb, y0, y1⟩ := lab_at (h.below hB) k hlt
      have hf := findM_drop l s k hlt
      rw [hd] at hf
      generalize l[k].1 = q at *
      generalize l[k].2 = ad at *
      by_cases hq : q.toList = s.toList
      · rw [if_pos hq] at hf
        have HF := Lib.hid hf
        have tq : (q.toList == s.toList) = true := by simpa using hq
        clear hf hd
        go_wp2_with fail
        go_ret2
        exact ⟨by rw [HF.out]; rfl, hB.alloc hB.size _⟩
      · rw [if_neg hq] at hf
        have HF := Lib.hid hf.symm
        have tq : (q.toList == s.toList) = false := by simpa using hq
        clear hf hd
        go_wp2_with fail
        go_roundw
        case rel => exact ⟨k + 1, by omega, by go_num, HF.out, hB.alloc hB.size _⟩
        case measure => simp [intOf]; omega
    · have t1 : decide ((k : Int) < (l.length : Int)) = false := decide_eq_false (by omega)
      obtain rfl : k = l.length := by omega
      rw [List.drop_length] at hd
      have HF := Lib.hid hd.symm
      clear hd
      go_wp2_with fail
      go_ret2
      exact ⟨by rw [HF.out]; rfl, hB⟩
/-- is a distance in an instruction's range? -/
def reachB (d m : Int) : Bool := decide (-m ≤ d) && decide (d ≤ m - 2)
theorem areach_any (d m : Int) (hm : 2 ≤ m) (hm2 : m ≤ 1048576) (w : World) : Calls Tryz.prog 81 #[.int .i64 d, .int .i64 m] w fun e w' => e = .returned (.bool (reachB d m)) ∧ w' = w := by
  unfold reachB
  cases t1 : decide (-m ≤ d)
  · go_enter Tryz.func81, Tryz.ntmps81
    go_wp2
    go_ret
    exact ⟨rfl, rfl⟩
  · cases t2 : decide (d ≤ m - 2)
    all_goals
      go_enter Tryz.func81, Tryz.ntmps81
      go_wp2
      go_ret
      exact ⟨rfl, rfl⟩
/-- the high part of a distance, and whether there is one. -/
def farH (d : Int) : Int := wrap64 (d + 2048) / 4096
def farB (d : Int) : Bool := decide (-524288 ≤ farH d) && decide (farH d < 524288)
theorem afar_any (d : Int) (w : World) : Calls Tryz.prog 102 #[.int .i64 d] w fun e w' => e = .returned (.tuple #[.int .i64 (farH d), .bool (farB d)]) ∧ w' = w := by
  unfold farB
  obtain ⟨h, hh⟩ : ∃ h, wrap64 (d + 2048) / 4096 = h := ⟨_, rfl⟩
  rw [show farH d = h from hh]
  cases t1 : decide (-524288 ≤ h)
  · go_enter Tryz.func102, Tryz.ntmps102
    go_wp2
    go_ret2
    exact ⟨rfl, rfl⟩
  · cases t2 : decide (h < 524288)
    all_goals
      go_enter Tryz.func102, Tryz.ntmps102
      go_wp2
      go_ret2
      exact ⟨rfl, rfl⟩
def turnM (op : Int) : Int := if op = 5 then 6 else if op = 6 then 5 else if op = 7 then 8 else if op = 8 then 7 else if op = 9 then 10 else 9
theorem aturned_any (op : Int) (h : 5 ≤ op ∧ op ≤ 10) (w : World) : Calls Tryz.prog 86 #[.int .i64 op] w fun e w' => e = .returned (.int .i64 (turnM op)) ∧ w' = w := by
  have x0 : bits .xor .i64 0 1 = 1 := by decide
  have x1 : bits .xor .i64 1 1 = 0 := by decide
  have x2 : bits .xor .i64 2 1 = 3 := by decide
  have x3 : bits .xor .i64 3 1 = 2 := by decide
  have x4 : bits .xor .i64 4 1 = 5 := by decide
  have x5 : bits .xor .i64 5 1 = 4 := by decide
  rcases (show op = 5 ∨ op = 6 ∨ op = 7 ∨ op = 8 ∨ op = 9 ∨ op = 10 by omega) with rfl | rfl | rfl | rfl | rfl | rfl
  all_goals
    go_enter Tryz.func86, Tryz.ntmps86
    go_wp2
    go_ret
    exact ⟨rfl, rfl⟩
end Go.Proofs

/- (*program).fits: does an item reach its label, as long as it is? -/
namespace Go.Pat
open Go Go.RowKit
/-- how far an item's label is. -/
def distM (F : List UInt8 → Option Nat) (s : ByteArray) (at_ : Nat) : Int := wrap64 (IntKind.u64.wrap (((F s.data.toList).getD 0 : Nat) - (at_ : Int)))
def fitsM (k size d : Int) : Bool :=
  if k = 7 ∧ size = 4 then Go.Proofs.reachB d 4096 else if k = 7 ∧ size = 8 then Go.Proofs.reachB (wrap64 (d - 4)) 1048576 else if (k = 5 ∨ k = 6) ∧ size = 4 then Go.Proofs.reachB d 1048576 else true
end Go.Pat
namespace Go.Proofs
open Go Go.RowKit Go.Pat
section
variable (w : World) (p : Nat) (TA : Option Addr) (tc : Nat) (text : List It) (DA : Option Addr) (dc : Nat) (data : List It) (at_ dat mb : Nat) (SA : Option Addr) (sc : Nat) (sizes : List Int)
set_option maxRecDepth 20000 in
set_option maxHeartbeats 4000000 in
theorem afits_7 (hP : PrAt w p TA tc text DA dc data at_ dat mb (.slice SA sizes.length sc)) (nm : Nat) (F : List UInt8 → Option Nat) (hM : SMap w mb nm F) (hS : Cs w.heap.size w SA (sizes.map (Value.int .i64))) (hl : sizes.length = text.length)
    (n : Nat) (hn : n < text.length) (ad : Nat) (hns : (text[n]).s.size ≤ maxLen) (hk : (text[n]).k = 7) :
    Calls Tryz.prog 61 #[.pointer (some ⟨p, 0, none⟩), .int .i64 (n : Int), .int .u64 (ad : Int)] w fun e w' => e = .returned (.bool (fitsM (text[n]).k (sizes[n]'(by omega)) (distM F (text[n]).s ad))) ∧ Below w.heap.size w w' := by
  have hlt := lt_of_block hP.str
  have c0 : w.cell? ⟨p, 0, none⟩ = some (.slice TA text.length tc) := hP.cell 0
  have c4 : w.cell? ⟨p, 4, none⟩ = some (.map (some mb)) := hP.cell 4
  have c5 : w.cell? ⟨p, 5, none⟩ = some (.slice SA sizes.length sc) := hP.cell 5
  obtain ⟨b, o, rfl, hb, x0, x1, x2, x3, x4, x5, x6⟩ := item_at hP.tx n hn
  obtain ⟨b2, o2, rfl, hb2, y0⟩ := hS n (by simp; omega)
  simp only [List.getElem_map] at y0
  have htl := hP.tl
  have hML := fun (X : Obj) (j : Nat) => ((hM.below (form1 w X)).keep (w' := (w.alloc X).drewN j) rfl).look _ hns
  have hML0 := fun (X : Obj) => (hM.below (form1 w X)).look _ hns
  have hmb := hM.lt
  unfold distM
  rw [hk] at x0 ⊢
  clear hk
  generalize text[n].s = v1 at *
  generalize text[n].op = v2 at *
  generalize text[n].rd = v3 at *
  generalize text[n].a = v4 at *
  generalize text[n].b = v5 at *
  generalize text[n].n = v6 at *
  generalize sizes[n] = sz at *
  generalize (F v1.data.toList).getD 0 = q at *
  have tt : decide ((n : Int) < (text.length : Int)) = true := decide_eq_true (by omega)
  have hnl : (n : Int) < (text.length : Int) := by omega
  have hnl2 : (n : Int) < (sizes.length : Int) := by omega
  have hn2 : n < sizes.length := by omega
  clear hP hM hS
  obtain ⟨d, hd⟩ : ∃ d, wrap64 (IntKind.u64.wrap ((q : Int) - (ad : Int))) = d := ⟨_, rfl⟩
  rw [hd]
  cases t4 : (sz == 4)
  · have n4 : ¬ sz = 4 := by simpa using t4
    cases t8 : (sz == 8)
    · have n8 : ¬ sz = 8 := by simpa using t8
      have HV := Lib.hid (show fitsM 7 sz d = true by unfold fitsM; simp [n4, n8])
      go_enter Tryz.func61, Tryz.ntmps61
      go_wp2
      go_quiet (fail)
      go_wp2_with (go_at_call 81; (with_reducible refine (areach_any _ _ (by decide) (by decide) _).mono ?_); rintro e w' ⟨rfl, rfl⟩)
      go_ret
      exact ⟨by rw [HV.out]; rfl, bdrewN (form1 w _) _⟩
    · have n8 : sz = 8 := by simpa using t8
      have HV0 := Lib.hid (show fitsM 7 sz d = reachB (wrap64 (d - 4)) 1048576 by unfold fitsM; simp [n8])
      clear n8 n4
      have HV := Lib.hid (show fitsM 7 sz d = reachB (wrap64 (d - 4)) 1048576 by exact HV0.out)
      go_enter Tryz.func61, Tryz.ntmps61
      go_wp2
      go_quiet (fail)
      go_wp2_with (go_at_call 81; (with_reducible refine (areach_any _ _ (by decide) (by decide) _).mono ?_); rintro e w' ⟨rfl, rfl⟩)
      go_ret
      exact ⟨by rw [HV.out]; rfl, bdrewN (form1 w _) _⟩
  · have n4 : sz = 4 := by simpa using t4
    have HV0 := Lib.hid (show fitsM 7 sz d = reachB d 4096 by unfold fitsM; simp [n4])
    clear n4
    have HV := Lib.hid (show fitsM 7 sz d = reachB d 4096 by exact HV0.out)
    go_enter Tryz.func61, Tryz.ntmps61
    go_wp2
    go_quiet (fail)
    go_wp2_with (go_at_call 81; (with_reducible refine (areach_any _ _ (by decide) (by decide) _).mono ?_); rintro e w' ⟨rfl, rfl⟩)
    go_ret
    exact ⟨by rw [HV.out]; rfl, bdrewN (form1 w _) _⟩
set_option maxRecDepth 20000 in
set_option maxHeartbeats 4000000 in
theorem afits_5 (hP : PrAt w p TA tc text DA dc data at_ dat mb (.slice SA sizes.length sc)) (nm : Nat) (F : List UInt8 → Option Nat) (hM : SMap w mb nm F) (hS : Cs w.heap.size w SA (sizes.map (Value.int .i64))) (hl : sizes.length = text.length)
    (n : Nat) (hn : n < text.length) (ad : Nat) (hns : (text[n]).s.size ≤ maxLen) (hk : (text[n]).k = 5) :
    Calls Tryz.prog 61 #[.pointer (some ⟨p, 0, none⟩), .int .i64 (n : Int), .int .u64 (ad : Int)] w fun e w' => e = .returned (.bool (fitsM (text[n]).k (sizes[n]'(by omega)) (distM F (text[n]).s ad))) ∧ Below w.heap.size w w' := by
  have hlt := lt_of_block hP.str
  have c0 : w.cell? ⟨p, 0, none⟩ = some (.slice TA text.length tc) := hP.cell 0
  have c4 : w.cell? ⟨p, 4, none⟩ = some (.map (some mb)) := hP.cell 4
  have c5 : w.cell? ⟨p, 5, none⟩ = some (.slice SA sizes.length sc) := hP.cell 5
  obtain ⟨b, o, rfl, hb, x0, x1, x2, x3, x4, x5, x6⟩ := item_at hP.tx n hn
  obtain ⟨b2, o2, rfl, hb2, y0⟩ := hS n (by simp; omega)
  simp only [List.getElem_map] at y0
  have htl := hP.tl
  have hML := fun (X : Obj) (j : Nat) => ((hM.below (form1 w X)).keep (w' := (w.alloc X).drewN j) rfl).look _ hns
  have hML0 := fun (X : Obj) => (hM.below (form1 w X)).look _ hns
  have hmb := hM.lt
  unfold distM
  rw [hk] at x0 ⊢
  clear hk
  generalize text[n].s = v1 at *
  generalize text[n].op = v2 at *
  generalize text[n].rd = v3 at *
  generalize text[n].a = v4 at *
  generalize text[n].b = v5 at *
  generalize text[n].n = v6 at *
  generalize sizes[n] = sz at *
  generalize (F v1.data.toList).getD 0 = q at *
  have tt : decide ((n : Int) < (text.length : Int)) = true := decide_eq_true (by omega)
  have hnl : (n : Int) < (text.length : Int) := by omega
  have hnl2 : (n : Int) < (sizes.length : Int) := by omega
  have hn2 : n < sizes.length := by omega
  clear hP hM hS
  obtain ⟨d, hd⟩ : ∃ d, wrap64 (IntKind.u64.wrap ((q : Int) - (ad : Int))) = d := ⟨_, rfl⟩
  rw [hd]
  cases t4 : (sz == 4)
  · have n4 : ¬ sz = 4 := by simpa using t4
    have HV := Lib.hid (show fitsM 5 sz d = true by unfold fitsM; simp [n4])
    go_enter Tryz.func61, Tryz.ntmps61
    go_wp2
    go_quiet (fail)
    go_wp2_with (go_at_call 81; (with_reducible refine (areach_any _ _ (by decide) (by decide) _).mono ?_); rintro e w' ⟨rfl, rfl⟩)
    go_ret
    exact ⟨by rw [HV.out]; rfl, bdrewN (form1 w _) _⟩
  · have n4 : sz = 4 := by simpa using t4
    have HV0 := Lib.hid (show fitsM 5 sz d = reachB d 1048576 by unfold fitsM; simp [n4])
    clear n4
    have HV := Lib.hid (show fitsM 5 sz d = reachB d 1048576 by exact HV0.out)
    go_enter Tryz.func61, Tryz.ntmps61
    go_wp2
    go_quiet (fail)
    go_wp2_with (go_at_call 81; (with_reducible refine (areach_any _ _ (by decide) (by decide) _).mono ?_); rintro e w' ⟨rfl, rfl⟩)
    go_ret
    exact ⟨by rw [HV.out]; rfl, bdrewN (form1 w _) _⟩
set_option maxRecDepth 20000 in
set_option maxHeartbeats 4000000 in
theorem afits_6 (hP : PrAt w p TA tc text DA dc data at_ dat mb (.slice SA sizes.length sc)) (nm : Nat) (F : List UInt8 → Option Nat) (hM : SMap w mb nm F) (hS : Cs w.heap.size w SA (sizes.map (Value.int .i64))) (hl : sizes.length = text.length)
    (n : Nat) (hn : n < text.length) (ad : Nat) (hns : (text[n]).s.size ≤ maxLen) (hk : (text[n]).k = 6) :
    Calls Tryz.prog 61 #[.pointer (some ⟨p, 0, none⟩), .int .i64 (n : Int), .int .u64 (ad : Int)] w fun e w' => e = .returned (.bool (fitsM (text[n]).k (sizes[n]'(by omega)) (distM F (text[n]).s ad))) ∧ Below w.heap.size w w' := by
  have hlt := lt_of_block hP.str
  have c0 : w.cell? ⟨p, 0, none⟩ = some (.slice TA text.length tc) := hP.cell 0
  have c4 : w.cell? ⟨p, 4, none⟩ = some (.map (some mb)) := hP.cell 4
  have c5 : w.cell? ⟨p, 5, none⟩ = some (.slice SA sizes.length sc) := hP.cell 5
  obtain ⟨b, o, rfl, hb, x0, x1, x2, x3, x4, x5, x6⟩ := item_at hP.tx n hn
  obtain ⟨b2, o2, rfl, hb2, y0⟩ := hS n (by simp; omega)
  simp only [List.getElem_map] at y0
  have htl := hP.tl
  have hML := fun (X : Obj) (j : Nat) => ((hM.below (form1 w X)).keep (w' := (w.alloc X).drewN j) rfl).look _ hns
  have hML0 := fun (X : Obj) => (hM.below (form1 w X)).look _ hns
  have hmb := hM.lt
  unfold distM
  rw [hk] at x0 ⊢
  clear hk
  generalize text[n].s = v1 at *
  generalize text[n].op = v2 at *
  generalize text[n].rd = v3 at *
  generalize text[n].a = v4 at *
  generalize text[n].b = v5 at *
  generalize text[n].n = v6 at *
  generalize sizes[n] = sz at *
  generalize (F v1.data.toList).getD 0 = q at *
  have tt : decide ((n : Int) < (text.length : Int)) = true := decide_eq_true (by omega)
  have hnl : (n : Int) < (text.length : Int) := by omega
  have hnl2 : (n : Int) < (sizes.length : Int) := by omega
  have hn2 : n < sizes.length := by omega
  clear hP hM hS
  obtain ⟨d, hd⟩ : ∃ d, wrap64 (IntKind.u64.wrap ((q : Int) - (ad : Int))) = d := ⟨_, rfl⟩
  rw [hd]
  cases t4 : (sz == 4)
  · have n4 : ¬ sz = 4 := by simpa using t4
    have HV := Lib.hid (show fitsM 6 sz d = true by unfold fitsM; simp [n4])
    go_enter Tryz.func61, Tryz.ntmps61
    go_wp2
    go_quiet (fail)
    go_wp2_with (go_at_call 81; (with_reducible refine (areach_any _ _ (by decide) (by decide) _).mono ?_); rintro e w' ⟨rfl, rfl⟩)
    go_ret
    exact ⟨by rw [HV.out]; rfl, bdrewN (form1 w _) _⟩
  · have n4 : sz = 4 := by simpa using t4
    have HV0 := Lib.hid (show fitsM 6 sz d = reachB d 1048576 by unfold fitsM; simp [n4])
    clear n4
    have HV := Lib.hid (show fitsM 6 sz d = reachB d 1048576 by exact HV0.out)
    go_enter Tryz.func61, Tryz.ntmps61
    go_wp2
    go_quiet (fail)
    go_wp2_with (go_at_call 81; (with_reducible refine (areach_any _ _ (by decide) (by decide) _).mono ?_); rintro e w' ⟨rfl, rfl⟩)
    go_ret
    exact ⟨by rw [HV.out]; rfl, bdrewN (form1 w _) _⟩
set_option maxRecDepth 20000 in
set_option maxHeartbeats 4000000 in
theorem afits_x (hP : PrAt w p TA tc text DA dc data at_ dat mb (.slice SA sizes.length sc)) (nm : Nat) (F : List UInt8 → Option Nat) (hM : SMap w mb nm F) (hS : Cs w.heap.size w SA (sizes.map (Value.int .i64))) (hl : sizes.length = text.length)
    (n : Nat) (hn : n < text.length) (ad : Nat) (hns : (text[n]).s.size ≤ maxLen) (h5 : (text[n]).k ≠ 5) (h6 : (text[n]).k ≠ 6) (h7 : (text[n]).k ≠ 7) :
    Calls Tryz.prog 61 #[.pointer (some ⟨p, 0, none⟩), .int .i64 (n : Int), .int .u64 (ad : Int)] w fun e w' => e = .returned (.bool (fitsM (text[n]).k (sizes[n]'(by omega)) (distM F (text[n]).s ad))) ∧ Below w.heap.size w w' := by
  have hlt := lt_of_block hP.str
  have c0 : w.cell? ⟨p, 0, none⟩ = some (.slice TA text.length tc) := hP.cell 0
  have c4 : w.cell? ⟨p, 4, none⟩ = some (.map (some mb)) := hP.cell 4
  have c5 : w.cell? ⟨p, 5, none⟩ = some (.slice SA sizes.length sc) := hP.cell 5
  obtain ⟨b, o, rfl, hb, x0, x1, x2, x3, x4, x5, x6⟩ := item_at hP.tx n hn
  obtain ⟨b2, o2, rfl, hb2, y0⟩ := hS n (by simp; omega)
  simp only [List.getElem_map] at y0
  have htl := hP.tl
  have hML := fun (X : Obj) (j : Nat) => ((hM.below (form1 w X)).keep (w' := (w.alloc X).drewN j) rfl).look _ hns
  have hML0 := fun (X : Obj) => (hM.below (form1 w X)).look _ hns
  have hmb := hM.lt
  unfold distM
  generalize text[n].k = v0 at *
  have k5 : (v0 == 5) = false := by simpa using h5
  have k6 : (v0 == 6) = false := by simpa using h6
  have k7 : (v0 == 7) = false := by simpa using h7
  have HV0 := Lib.hid (fun (sz d : Int) => (show fitsM v0 sz d = true by unfold fitsM; simp [h5, h6, h7]))
  clear h5 h6 h7
  generalize text[n].s = v1 at *
  generalize text[n].op = v2 at *
  generalize text[n].rd = v3 at *
  generalize text[n].a = v4 at *
  generalize text[n].b = v5 at *
  generalize text[n].n = v6 at *
  generalize sizes[n] = sz at *
  generalize (F v1.data.toList).getD 0 = q at *
  have tt : decide ((n : Int) < (text.length : Int)) = true := decide_eq_true (by omega)
  have hnl : (n : Int) < (text.length : Int) := by omega
  have hnl2 : (n : Int) < (sizes.length : Int) := by omega
  have hn2 : n < sizes.length := by omega
  clear hP hM hS
  obtain ⟨d, hd⟩ : ∃ d, wrap64 (IntKind.u64.wrap ((q : Int) - (ad : Int))) = d := ⟨_, rfl⟩
  rw [hd]
  have HV := Lib.hid (show fitsM v0 sz d = true by exact HV0.out sz d)
  go_enter Tryz.func61, Tryz.ntmps61
  go_wp2
  go_quiet (fail)
  go_wp2_with (go_at_call 81; (with_reducible refine (areach_any _ _ (by decide) (by decide) _).mono ?_); rintro e w' ⟨rfl, rfl⟩)
  go_ret
  exact ⟨by rw [HV.out]; rfl, bdrewN (form1 w _) _⟩
theorem afits_any (hP : PrAt w p TA tc text DA dc data at_ dat mb (.slice SA sizes.length sc)) (nm : Nat) (F : List UInt8 → Option Nat) (hM : SMap w mb nm F) (hS : Cs w.heap.size w SA (sizes.map (Value.int .i64))) (hl : sizes.length = text.length)
    (n : Nat) (hn : n < text.length) (ad : Nat) (hns : (text[n]).s.size ≤ maxLen) :
    Calls Tryz.prog 61 #[.pointer (some ⟨p, 0, none⟩), .int .i64 (n : Int), .int .u64 (ad : Int)] w fun e w' => e = .returned (.bool (fitsM (text[n]).k (sizes[n]'(by omega)) (distM F (text[n]).s ad))) ∧ Below w.heap.size w w' := by
  by_cases h5 : (text[n]).k = 5
  · exact afits_5 w p TA tc text DA dc data at_ dat mb SA sc sizes hP nm F hM hS hl n hn ad hns h5
  · by_cases h6 : (text[n]).k = 6
    · exact afits_6 w p TA tc text DA dc data at_ dat mb SA sc sizes hP nm F hM hS hl n hn ad hns h6
    · by_cases h7 : (text[n]).k = 7
      · exact afits_7 w p TA tc text DA dc data at_ dat mb SA sc sizes hP nm F hM hS hl n hn ad hns h7
      · exact afits_x w p TA tc text DA dc data at_ dat mb SA sc sizes hP nm F hM hS hl n hn ad hns h5 h6 h7
end
end Go.Proofs

/- patina/asm.pair behind the closures of (*program).code. -/
namespace Go.Proofs
open Go Go.RowKit Go.Pat
/-- what is behind the high part of a distance. -/
def restI (d : Int) : Int := wrap64 (d - wrap64 (farH d * 4096))
def PairTo (rd : Int) (snd : In) (d : Int) (w : World) (e : Ending) (w' : World) : Prop :=
  ∃ v, e = .returned (.tuple #[v, .bool (farB d)]) ∧ OwnI w' w.heap.size v [⟨2, rd, 0, 0, farH d⟩, snd] ∧ Below w.heap.size w w'
theorem below4 (w : World) (a b c d : Obj) : Below w.heap.size w ((((w.alloc a).alloc b).alloc c).alloc d) := by
  have h := (form2 w a b)
  have h3 := h.alloc h.size c
  exact h3.alloc h3.size d
theorem own_lit2 (w : World) (a b c : Obj) (i j : In) : OwnI ((((w.alloc a).alloc b).alloc c).alloc (.cells #[.int .i64 i.op, .int .i64 i.rd, .int .i64 i.a, .int .i64 i.b, .int .i64 i.n, .int .i64 j.op, .int .i64 j.rd, .int .i64 j.a, .int .i64 j.b, .int .i64 j.n] 26)) w.heap.size (.slice (some ⟨w.heap.size + 1 + 1 + 1, 0, none⟩) 2 2) [i, j] := by
  have h := World.ownsRow_lit (base := w.heap.size) (e := 26) (size := 5) (((w.alloc a).alloc b).alloc c) #[.int .i64 i.op, .int .i64 i.rd, .int .i64 i.a, .int .i64 i.b, .int .i64 i.n, .int .i64 j.op, .int .i64 j.rd, .int .i64 j.a, .int .i64 j.b, .int .i64 j.n] 2 (by rw [World.size_alloc, World.size_alloc, World.size_alloc]; omega) (by decide) rfl
  rw [World.size_alloc, World.size_alloc, World.size_alloc] at h
  exact h
set_option maxRecDepth 20000 in
theorem acode11_any (d rd link : Int) (b1 b2 : Nat) (w : World) (h1 : w.cell? ⟨b1, 0, none⟩ = some (.int .i64 rd)) (h2 : w.cell? ⟨b2, 0, none⟩ = some (.int .i64 link)) (l1 : b1 < w.heap.size) (l2 : b2 < w.heap.size) :
    Calls Tryz.prog 84 #[.int .i64 d, .pointer (some ⟨b1, 0, none⟩), .pointer (some ⟨b2, 0, none⟩)] w fun e w' => e = .returned (.agg #[.int .i64 4, .int .i64 rd, .int .i64 link, .int .i64 0, .int .i64 d]) ∧ w' = w.alloc (.cells #[.int .i64 4, .int .i64 rd, .int .i64 link, .int .i64 0, .int .i64 d] 26) := by
  go_enter Tryz.func84, Tryz.ntmps84
  go_wp2
  exact bodyPost_ret (results_cell_row rfl _ _ w.heap.size 26 #[.int .i64 4, .int .i64 rd, .int .i64 link, .int .i64 0, .int .i64 d] (0, 0) _ rfl (heap_alloc_new w _) Tryz.underlying26 rfl Tryz_sizeIns) rfl ⟨rfl, rfl⟩
set_option maxRecDepth 20000 in
set_option maxHeartbeats 4000000 in
theorem acode1_any (rd link d : Int) (w : World) : Calls Tryz.prog 82 #[.int .i64 rd, .int .i64 link, .int .i64 d] w (PairTo link ⟨4, rd, link, 0, restI d⟩ d w) := by
  have HF := Lib.hid (fun W => afar_any d W)
  have HR := Lib.hid (show restI d = wrap64 (d - wrap64 (farH d * 4096)) from rfl)
  have HP : ∀ v w', OwnI w' w.heap.size v [⟨2, link, 0, 0, farH d⟩, ⟨4, rd, link, 0, restI d⟩] → Below w.heap.size w w' → PairTo link ⟨4, rd, link, 0, restI d⟩ d w (.returned (.tuple #[v, .bool (farB d)])) w' := fun v w' h1 h2 => ⟨v, rfl, h1, h2⟩
  have HPh := Lib.hid HP
  clear HP
  generalize PairTo link ⟨4, rd, link, 0, restI d⟩ d w = PP at *
  generalize farH d = h at *
  generalize farB d = fb at *
  go_enter Tryz.func82, Tryz.ntmps82
  go_wp2_with (first | (go_at_call 102; (with_reducible refine (HF.out _).mono ?_); rintro e w' ⟨rfl, rfl⟩) | (go_at_call 84; refine (acode11_any _ rd link w.heap.size (w.heap.size + 1) _ (by go_simp) (by go_simp) (by simp; omega) (by simp)).mono ?_; rintro e w' ⟨rfl, rfl⟩) | go_in)
  show PP (.returned (.tuple #[.slice (some ⟨w.heap.size + 1 + 1 + 1, 0, none⟩) 2 2, .bool fb])) _
  refine HPh.out _ _ ?_ (below4 w _ _ _ _)
  rw [HR.out]
  exact own_lit2 w _ _ _ ⟨2, link, 0, 0, h⟩ ⟨4, rd, link, 0, wrap64 (d - wrap64 (h * 4096))⟩
theorem below2 (w : World) (a b : Obj) : Below w.heap.size w ((w.alloc a).alloc b) := form2 w a b
theorem own_lit1 (w : World) (a : Obj) (i j : In) : OwnI ((w.alloc a).alloc (.cells #[.int .i64 i.op, .int .i64 i.rd, .int .i64 i.a, .int .i64 i.b, .int .i64 i.n, .int .i64 j.op, .int .i64 j.rd, .int .i64 j.a, .int .i64 j.b, .int .i64 j.n] 26)) w.heap.size (.slice (some ⟨w.heap.size + 1, 0, none⟩) 2 2) [i, j] := by
  have h := World.ownsRow_lit (base := w.heap.size) (e := 26) (size := 5) (w.alloc a) #[.int .i64 i.op, .int .i64 i.rd, .int .i64 i.a, .int .i64 i.b, .int .i64 i.n, .int .i64 j.op, .int .i64 j.rd, .int .i64 j.a, .int .i64 j.b, .int .i64 j.n] 2 (by rw [World.size_alloc]; omega) (by decide) rfl
  rw [World.size_alloc] at h
  exact h
set_option maxRecDepth 20000 in
theorem acode2_any (d rd : Int) (b : Nat) (w : World) (h1 : w.cell? ⟨b, 3, none⟩ = some (.int .i64 rd)) (l1 : b < w.heap.size) :
    Calls Tryz.prog 85 #[.int .i64 d, .pointer (some ⟨b, 0, none⟩)] w fun e w' => e = .returned (.agg #[.int .i64 22, .int .i64 rd, .int .i64 rd, .int .i64 0, .int .i64 d]) ∧ w' = w.alloc (.cells #[.int .i64 22, .int .i64 rd, .int .i64 rd, .int .i64 0, .int .i64 d] 26) := by
  go_enter Tryz.func85, Tryz.ntmps85
  go_wp2
  exact bodyPost_ret (results_cell_row rfl _ _ w.heap.size 26 #[.int .i64 22, .int .i64 rd, .int .i64 rd, .int .i64 0, .int .i64 d] (0, 0) _ rfl (heap_alloc_new w _) Tryz.underlying26 rfl Tryz_sizeIns) rfl ⟨rfl, rfl⟩
set_option maxRecDepth 20000 in
set_option maxHeartbeats 4000000 in
theorem apairLa_any (rd d : Int) (b : Nat) (w : World) (hc : w.cell? ⟨b, 3, none⟩ = some (.int .i64 rd)) (hl : b < w.heap.size) : Calls Tryz.prog 83 #[.int .i64 rd, .int .i64 d, .func (.func 85) #[] #[.pointer (some ⟨b, 0, none⟩)]] w (PairTo rd ⟨22, rd, rd, 0, restI d⟩ d w) := by
  have HF := Lib.hid (fun W => afar_any d W)
  have HR := Lib.hid (show restI d = wrap64 (d - wrap64 (farH d * 4096)) from rfl)
  have HP : ∀ v w', OwnI w' w.heap.size v [⟨2, rd, 0, 0, farH d⟩, ⟨22, rd, rd, 0, restI d⟩] → Below w.heap.size w w' → PairTo rd ⟨22, rd, rd, 0, restI d⟩ d w (.returned (.tuple #[v, .bool (farB d)])) w' := fun v w' h1 h2 => ⟨v, rfl, h1, h2⟩
  have HPh := Lib.hid HP
  clear HP
  generalize PairTo rd ⟨22, rd, rd, 0, restI d⟩ d w = PP at *
  generalize farH d = h at *
  generalize farB d = fb at *
  go_enter Tryz.func83, Tryz.ntmps83
  go_wp2_with (first | (go_at_call 102; (with_reducible refine (HF.out _).mono ?_); rintro e w' ⟨rfl, rfl⟩) | (go_at_call 85; refine (acode2_any _ rd b _ hc hl).mono ?_; rintro e w' ⟨rfl, rfl⟩) | go_in)
  show PP (.returned (.tuple #[.slice (some ⟨_ + 1, 0, none⟩) 2 2, .bool fb])) _
  refine HPh.out _ _ ?_ (below2 _ _ _)
  rw [HR.out]
  exact own_lit1 _ _ ⟨2, rd, 0, 0, h⟩ ⟨22, rd, rd, 0, wrap64 (d - wrap64 (h * 4096))⟩
end Go.Proofs
