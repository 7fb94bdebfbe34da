/- patina/asm.Find, patinaref05.Find: a label's address; patina/asm.reach, far, turned. -/
import Derived.Test.YtemngapfnkokiaaDoorItem
namespace Go.Pat
open Go Go.RowKit
/-- labels: their names and addresses. -/
abbrev Lab := ByteArray × Nat
def lcells : List Lab → List Value
  | [] => []
  | x :: r => [.string x.1, .int .u64 (x.2 : Int)] ++ lcells r
theorem lcells_length (l : List Lab) : (lcells l).length = l.length * 2 := by
  induction l with
  | nil => rfl
  | cons i r ih => simp [lcells, ih]; omega
theorem lcells_append (a b : List Lab) : lcells (a ++ b) = lcells a ++ lcells b := by
  induction a with
  | nil => rfl
  | cons i r ih => simp [lcells, ih]
theorem lcells_one (l : List Lab) : ∀ u ∈ lcells l, u.oneCell' = true := by
  induction l with
  | nil => intro u hu; cases hu
  | cons i r ih =>
    intro u hu
    simp only [lcells, List.cons_append, List.nil_append, List.mem_cons] at hu
    rcases hu with rfl | rfl | h
    · rfl
    · rfl
    · exact ih u h
theorem lcells_get (l : List Lab) (i : Nat) (hi : i < l.length) : (lcells l)[i * 2]? = some (.string l[i].1) ∧ (lcells l)[i * 2 + 1]? = some (.int .u64 (l[i].2 : Int)) := by
  induction l generalizing i with
  | nil => simp at hi
  | cons s r ih =>
    cases i with
    | zero => exact ⟨rfl, rfl⟩
    | succ i =>
      have h := ih i (by simpa using hi)
      rw [show (i + 1) * 2 = i * 2 + 1 + 1 by omega]
      simp only [lcells, List.cons_append, List.nil_append, List.getElem?_cons_succ, List.getElem_cons_succ]
      exact h
theorem lab_at {B : Nat} {w : World} {A : Option Addr} {l : List Lab} (h : Cs B w A (lcells l)) (k : Nat) (hk : k < l.length) :
    ∃ b o, A = some ⟨b, o, none⟩ ∧ b < B ∧ w.cell? ⟨b, o + k * 2, none⟩ = some (.string l[k].1) ∧ w.cell? ⟨b, o + k * 2 + 1, none⟩ = some (.int .u64 (l[k].2 : Int)) := by
  have hlen := lcells_length l
  obtain ⟨g0, g1⟩ := lcells_get l k hk
  obtain ⟨b, o, rfl, hb, h0⟩ := h (k * 2) (by omega)
  obtain ⟨b1, o1, e1, _, h1⟩ := h (k * 2 + 1) (by omega)
  cases e1
  rw [List.getElem?_eq_getElem (by omega)] at g0 g1
  exact ⟨b, o, rfl, hb, h0.trans g0, h1.trans g1⟩
/-- a label's address, and whether it is there. -/
def findM : List Lab → ByteArray → Nat × Bool
  | [], _ => (0, false)
  | x :: r, s => if x.1.toList = s.toList then (x.2, true) else findM r s
end Go.Pat
namespace Go.Proofs
open Go Go.RowKit Go.Pat
theorem findM_drop (l : List Lab) (s : ByteArray) (k : Nat) (hk : k < l.length) : findM (l.drop k) s = if l[k].1.toList = s.toList then (l[k].2, true) else findM (l.drop (k + 1)) s := by
  rw [List.drop_eq_getElem_cons hk]; rfl
set_option maxHeartbeats 4000000 in
theorem aFind_any (w : World) (T D : Value) (A : Option Addr) (n c : Nat) (l : List Lab) (s : ByteArray) (h : Cs w.heap.size w A (lcells l)) (hn : l.length = n) (hlen : n ≤ 9223372036854775807) :
    Calls Tryd.prog 20 #[.agg #[T, D, .slice A n c], .string s] w fun e w' => e = .returned (.tuple #[.int .u64 ((findM l s).1 : Int), .bool (findM l s).2]) ∧ Below w.heap.size w w' := by
  subst hn
  obtain ⟨W0, hW0⟩ : ∃ W0, W0 = w.alloc (.cells #[T, D, .slice A l.length c] 45) := ⟨_, rfl⟩
  have hb0 : Below w.heap.size w W0 := by rw [hW0]; exact form1 w _
  have hc0 : W0.heap[w.heap.size]? = some (.cells #[T, D, .slice A l.length c] 45 (0, 0)) := by rw [hW0]; exact heap_alloc_new w _
  have x2 : W0.cell? ⟨w.heap.size, 2, none⟩ = some (.slice A l.length c) := (obj_cell hc0 2).trans rfl
  have hl0 := h.below hb0
  have HW := Lib.hid hW0
  clear hW0 hc0
  go_enter Tryd.func20, Tryd.ntmps20
  go_upto_region 1 with fail
  rw [← HW.out]
  go_wp2_with fail
  go_loopw [11] (fun i wr => ∃ k : Nat, k ≤ l.length ∧ i = .int .i64 k ∧ findM (l.drop k) s = findM l s ∧ Below w.heap.size w wr) (fun i _ => l.length - (intOf i).toNat)
  case atStart => exact ⟨0, Nat.zero_le _, rfl, rfl, hb0⟩
  case round =>
    obtain ⟨k, hk, rfl, hd, hB⟩ := hrel
    by_cases hlt : k < l.length
    · have t1 : decide ((k : Int) < (l.length : Int)) = true := decide_eq_true (by omega)
      obtain ⟨b, o, rfl, hb, y0, y1⟩ := lab_at (h.below hB) k hlt
      have hf := findM_drop l s k hlt
      rw [hd] at hf
      generalize l[k].1 = q at *
      generalize l[k].2 = ad at *
      by_cases hq : q.toList = s.toList
      · rw [if_pos hq] at hf
        have HF := Lib.hid hf
        have tq : (q.toList == s.toList) = true := by simpa using hq
        clear hf hd
        go_wp2_with fail
        go_ret2
        exact ⟨by rw [HF.out]; rfl, hB.alloc hB.size _⟩
      · rw [if_neg hq] at hf
        have HF := Lib.hid hf.symm
        have tq : (q.toList == s.toList) = false := by simpa using hq
        clear hf hd
        go_wp2_with fail
        go_roundw
        case rel => exact ⟨k + 1, by omega, by go_num, HF.out, hB.alloc hB.size _⟩
        case measure => simp [intOf]; omega
    · have t1 : decide ((k : Int) < (l.length : Int)) = false := decide_eq_false (by omega)
      obtain rfl : k = l.length := by omega
      rw [List.drop_length] at hd
      have HF := Lib.hid hd.symm
      clear hd
      go_wp2_with fail
      go_ret2
      exact ⟨by rw [HF.out]; rfl, hB⟩
set_option maxHeartbeats 4000000 in
theorem r5Find_any (w : World) (T D : Value) (A : Option Addr) (n c : Nat) (l : List Lab) (s : ByteArray) (h : Cs w.heap.size w A (lcells l)) (hn : l.length = n) (hlen : n ≤ 9223372036854775807) :
    Calls Tryd.prog 21 #[.agg #[T, D, .slice A n c], .string s] w fun e w' => e = .returned (.tuple #[.int .u64 ((findM l s).1 : Int), .bool (findM l s).2]) ∧ Below w.heap.size w w' := by
  subst hn
  obtain ⟨W0, hW0⟩ : ∃ W0, W0 = w.alloc (.cells #[T, D, .slice A l.length c] 45) := ⟨_, rfl⟩
  have hb0 : Below w.heap.size w W0 := by rw [hW0]; exact form1 w _
  have hc0 : W0.heap[w.heap.size]? = some (.cells #[T, D, .slice A l.length c] 45 (0, 0)) := by rw [hW0]; exact heap_alloc_new w _
  have x2 : W0.cell? ⟨w.heap.size, 2, none⟩ = some (.slice A l.length c) := (obj_cell hc0 2).trans rfl
  have hl0 := h.below hb0
  have HW := Lib.hid hW0
  clear hW0 hc0
  go_enter Tryd.func21, Tryd.ntmps21
  go_upto_region 1 with fail
  rw [← HW.out]
  go_wp2_with fail
  go_loopw [11] (fun i wr => ∃ k : Nat, k ≤ l.length ∧ i = .int .i64 k ∧ findM (l.drop k) s = findM l s ∧ Below w.heap.size w wr) (fun i _ => l.length - (intOf i).toNat)
  case atStart => exact ⟨0, Nat.zero_le _, rfl, rfl, hb0⟩
  case round =>
    obtain ⟨k, hk, rfl, hd, hB⟩ := hrel
    by_cases hlt : k < l.length
    · have t1 : decide ((k : Int) < (l.length : Int)) = true := decide_eq_true (by omega)
      obtain ⟨b, o, rfl, hb, y0, y1⟩ := lab_at (h.below hB) k hlt
      have hf := findM_drop l s k hlt
      rw [hd] at hf
      generalize l[k].1 = q at *
      generalize l[k].2 = ad at *
      by_cases hq : q.toList = s.toList
      · rw [if_pos hq] at hf
        have HF := Lib.hid hf
        have tq : (q.toList == s.toList) = true := by simpa using hq
        clear hf hd
        go_wp2_with fail
        go_ret2
        exact ⟨by rw [HF.out]; rfl, hB.alloc hB.size _⟩
      · rw [if_neg hq] at hf
        have HF := Lib.hid hf.symm
        have tq : (q.toList == s.toList) = false := by simpa using hq
        clear hf hd
        go_wp2_with fail
        go_roundw
        case rel => exact ⟨k + 1, by omega, by go_num, HF.out, hB.alloc hB.size _⟩
        case measure => simp [intOf]; omega
    · have t1 : decide ((k : Int) < (l.length : Int)) = false := decide_eq_false (by omega)
      obtain rfl : k = l.length := by omega
      rw [List.drop_length] at hd
      have HF := Lib.hid hd.symm
      clear hd
      go_wp2_with fail
      go_ret2
      exact ⟨by rw [HF.out]; rfl, hB⟩
/-- is a distance in an instruction's range? -/
def reachB (d m : Int) : Bool := decide (-m ≤ d) && decide (d ≤ m - 2)
theorem areach_any (d m : Int) (hm : 2 ≤ m) (hm2 : m ≤ 1048576) (w : World) : Calls Tryd.prog 107 #[.int .i64 d, .int .i64 m] w fun e w' => e = .returned (.bool (reachB d m)) ∧ w' = w := by
  unfold reachB
  cases t1 : decide (-m ≤ d)
  · go_enter Tryd.func107, Tryd.ntmps107
    go_wp2
    go_ret
    exact ⟨rfl, rfl⟩
  · cases t2 : decide (d ≤ m - 2)
    all_goals
      go_enter Tryd.func107, Tryd.ntmps107
      go_wp2
      go_ret
      exact ⟨rfl, rfl⟩
/-- the high part of a distance, and whether there is one. -/
def farH (d : Int) : Int := wrap64 (d + 2048) / 4096
def farB (d : Int) : Bool := decide (-524288 ≤ farH d) && decide (farH d < 524288)
theorem afar_any (d : Int) (w : World) : Calls Tryd.prog 135 #[.int .i64 d] w fun e w' => e = .returned (.tuple #[.int .i64 (farH d), .bool (farB d)]) ∧ w' = w := by
  unfold farB
  obtain ⟨h, hh⟩ : ∃ h, wrap64 (d + 2048) / 4096 = h := ⟨_, rfl⟩
  rw [show farH d = h from hh]
  cases t1 : decide (-524288 ≤ h)
  · go_enter Tryd.func135, Tryd.ntmps135
    go_wp2
    go_ret2
    exact ⟨rfl, rfl⟩
  · cases t2 : decide (h < 524288)
    all_goals
      go_enter Tryd.func135, Tryd.ntmps135
      go_wp2
      go_ret2
      exact ⟨rfl, rfl⟩
def turnM (op : Int) : Int := if op = 5 then 6 else if op = 6 then 5 else if op = 7 then 8 else if op = 8 then 7 else if op = 9 then 10 else 9
theorem aturned_any (op : Int) (h : 5 ≤ op ∧ op ≤ 10) (w : World) : Calls Tryd.prog 112 #[.int .i64 op] w fun e w' => e = .returned (.int .i64 (turnM op)) ∧ w' = w := by
  have x0 : bits .xor .i64 0 1 = 1 := by decide
  have x1 : bits .xor .i64 1 1 = 0 := by decide
  have x2 : bits .xor .i64 2 1 = 3 := by decide
  have x3 : bits .xor .i64 3 1 = 2 := by decide
  have x4 : bits .xor .i64 4 1 = 5 := by decide
  have x5 : bits .xor .i64 5 1 = 4 := by decide
  rcases (show op = 5 ∨ op = 6 ∨ op = 7 ∨ op = 8 ∨ op = 9 ∨ op = 10 by omega) with rfl | rfl | rfl | rfl | rfl | rfl
  all_goals
    go_enter Tryd.func112, Tryd.ntmps112
    go_wp2
    go_ret
    exact ⟨rfl, rfl⟩
end Go.Proofs
