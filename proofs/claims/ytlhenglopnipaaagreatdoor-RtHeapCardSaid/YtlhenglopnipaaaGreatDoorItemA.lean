/- patina/asm.named, only, item: what is wrong with an item. -/
import Derived.Test.YtlhenglopnipaaaGreatDoorRvc
import Derived.Test.YtlhenglopnipaaaGreatDoorDecI
import Derived.Test.YtlhenglopnipaaaGreatDoorForms
import Derived.BigQuiet
import Derived.Lib.Strings
import Derived.Deep.QuietTactic
import Derived.RegionTactic
import Derived.Maps.Own
import Derived.Maps.OwnOps
import Derived.Maps.OwnSet
import Derived.Maps.Views
namespace Go.Pat
open Go Go.RowKit
/-- an item. -/
structure It where
  k : Int
  s : ByteArray
  op : Int
  rd : Int
  a : Int
  b : Int
  n : Int
deriving DecidableEq
def It.cs (x : It) : Array Value := #[.int .i64 x.k, .string x.s, .int .i64 x.op, .int .i64 x.rd, .int .i64 x.a, .int .i64 x.b, .int .i64 x.n]
def namedB (s : ByteArray) : Bool := decide (1 ≤ s.size) && decide (s.size ≤ 128)
def inB2 (n lo hi : Int) : Bool := decide (lo ≤ n) && decide (n ≤ hi)
def no : ByteArray := ⟨#[]⟩
/-- has an item no fields but its kind and those given? -/
def onlyB (s : ByteArray) (op rd a b n : Int) (s2 : ByteArray) (op2 rd2 a2 b2 n2 : Int) : Bool :=
  decide (s = s2 ∧ op = op2 ∧ rd = rd2 ∧ a = a2 ∧ b = b2 ∧ n = n2)
end Go.Pat
namespace Go.Proofs
open Go Go.RowKit Go.Pat
theorem toList_inj {s t : ByteArray} (h : s.toList = t.toList) : s = t := by
  rw [Lib.toList_data, Lib.toList_data] at h
  exact ByteArray.ext (Array.toList_inj.1 h)
theorem aitem1_any (n lo hi : Int) (w : World) : Calls Tryz.prog 76 #[.int .i64 n, .int .i64 lo, .int .i64 hi] w fun e w' => e = .returned (.bool (inB2 n lo hi)) ∧ w' = w := by
  unfold inB2
  cases t1 : decide (lo ≤ n)
  · go_enter Tryz.func76, Tryz.ntmps76
    go_wp2
    go_ret
    exact ⟨rfl, rfl⟩
  · cases t2 : decide (n ≤ hi)
    all_goals
      go_enter Tryz.func76, Tryz.ntmps76
      go_wp2
      go_ret
      exact ⟨rfl, rfl⟩
theorem anamed_any (s : ByteArray) (hs : s.size ≤ maxLen) (w : World) : Calls Tryz.prog 77 #[.string s] w fun e w' => e = .returned (.bool (namedB s)) ∧ w' = w := by
  unfold namedB
  unfold maxLen at hs
  cases t1 : decide (1 ≤ s.size)
  · have t1' : decide ((1 : Int) ≤ (s.size : Int)) = false := decide_eq_false (by have := of_decide_eq_false t1; omega)
    go_enter Tryz.func77, Tryz.ntmps77
    go_wp2
    go_ret
    exact ⟨rfl, rfl⟩
  · have t1' : decide ((1 : Int) ≤ (s.size : Int)) = true := decide_eq_true (by have := of_decide_eq_true t1; omega)
    cases t2 : decide (s.size ≤ 128)
    · have t2' : decide ((s.size : Int) ≤ (128 : Int)) = false := decide_eq_false (by have := of_decide_eq_false t2; omega)
      go_enter Tryz.func77, Tryz.ntmps77
      go_wp2
      go_ret
      exact ⟨rfl, rfl⟩
    · have t2' : decide ((s.size : Int) ≤ (128 : Int)) = true := decide_eq_true (by have := of_decide_eq_true t2; omega)
      go_enter Tryz.func77, Tryz.ntmps77
      go_wp2
      go_ret
      exact ⟨rfl, rfl⟩
def OnlyTo (v : Bool) (w : World) (e : Ending) (w' : World) : Prop := e = .returned (.bool v) ∧ Below w.heap.size w w'
set_option maxHeartbeats 1000000 in
theorem aonly_any (k k2 op rd a b n op2 rd2 a2 b2 n2 : Int) (s s2 : ByteArray) (w : World) :
    Calls Tryz.prog 78 #[.agg #[.int .i64 k, .string s, .int .i64 op, .int .i64 rd, .int .i64 a, .int .i64 b, .int .i64 n], .agg #[.int .i64 k2, .string s2, .int .i64 op2, .int .i64 rd2, .int .i64 a2, .int .i64 b2, .int .i64 n2]] w
      (OnlyTo (onlyB s op rd a b n s2 op2 rd2 a2 b2 n2) w) := by
  go_enter Tryz.func78, Tryz.ntmps78
  go_wp2
  all_goals
    go_ret
    refine ⟨congrArg (fun z => Ending.returned (Value.bool z)) ?_, form2 w _ _⟩
    unfold onlyB
    first
      | (symm; rw [decide_eq_true_eq]; refine ⟨toList_inj (by assumption), ?_⟩; refine ⟨?_, ?_, ?_, ?_, ?_⟩ <;> first | assumption | omega)
      | (symm; rw [decide_eq_false_iff_not]; rintro ⟨rfl, rfl, rfl, rfl, rfl, rfl⟩; simp_all)
/-- what is wrong with an item. -/
def okI (x : It) (data : Bool) : Bool :=
  if x.k = 1 then namedB x.s && onlyB x.s x.op x.rd x.a x.b x.n x.s 0 0 0 0 0
  else if x.k = 2 then (x.s.toList == []) && !data
  else if x.k = 3 then ((!data) && inB2 x.rd 0 31) && onlyB x.s x.op x.rd x.a x.b x.n no 0 x.rd 0 0 x.n
  else if x.k = 4 ∨ x.k = 6 then (((!data) && inB2 x.rd 1 31) && namedB x.s) && onlyB x.s x.op x.rd x.a x.b x.n x.s 0 x.rd 0 0 0
  else if x.k = 5 then ((!data) && namedB x.s) && onlyB x.s x.op x.rd x.a x.b x.n x.s 0 0 0 0 0
  else if x.k = 7 then (((((!data) && namedB x.s) && inB2 x.op 5 10) && inB2 x.a 0 31) && inB2 x.b 0 31) && onlyB x.s x.op x.rd x.a x.b x.n x.s x.op 0 x.a x.b 0
  else if x.k = 8 then onlyB x.s x.op x.rd x.a x.b x.n no 0 0 0 0 x.n
  else if x.k = 9 then ((decide (0 ≤ x.n) && decide (x.n ≤ 1048576)) && (data || (x.n.tmod 4 == 0))) && onlyB x.s x.op x.rd x.a x.b x.n no 0 0 0 0 x.n
  else false
def itemE (x : It) (data : Bool) : Int :=
  if x.k = 2 ∧ data = false ∧ rightI x.op x.rd x.a x.b x.n = false then 11 else if okI x data then 0 else 1
def ErrTo (v : Int) (w : World) (e : Ending) (w' : World) : Prop := e = .returned (.int .i64 v) ∧ Below w.heap.size w w'
set_option maxRecDepth 20000 in
set_option maxHeartbeats 4000000 in
theorem aitem_1_t (op rd a b n : Int) (s : ByteArray) (hs : s.size ≤ maxLen) (w : World) : Calls Tryz.prog 58 #[.agg #[.int .i64 1, .string s, .int .i64 op, .int .i64 rd, .int .i64 a, .int .i64 b, .int .i64 n], .bool false] w (ErrTo (itemE ⟨1, s, op, rd, a, b, n⟩ false) w) := by
  obtain ⟨v, hv⟩ : ∃ v, v = itemE ⟨1, s, op, rd, a, b, n⟩ false := ⟨_, rfl⟩
  rw [← hv]
  have hv2 : v = if (namedB s) && onlyB s op rd a b n s 0 0 0 0 0 then 0 else 1 := hv
  have HV := Lib.hid hv2
  clear hv hv2
  have HO := Lib.hid (fun W => aonly_any 1 0 op rd a b n 0 0 0 0 0 s s W)
  generalize onlyB s op rd a b n s 0 0 0 0 0 = to at *
  unfold OnlyTo at HO
  have HN := Lib.hid (fun W => anamed_any s hs W)
  generalize namedB s = tn at *
  clear hs
  cases q0 : tn
  · go_enter Tryz.func58, Tryz.ntmps58
    go_wp2_with (first | (go_at_call 78; (with_reducible refine (HO.out _).mono ?_); rintro e w2 ⟨rfl, hB2⟩) | (go_at_call 77; (with_reducible refine (HN.out _).mono ?_); rintro e w' ⟨rfl, rfl⟩))
    go_ret
    exact ⟨by rw [HV.out]; simp [q0], form1 w _⟩
  · cases q1 : to
    · go_enter Tryz.func58, Tryz.ntmps58
      go_wp2_with (first | (go_at_call 78; (with_reducible refine (HO.out _).mono ?_); rintro e w2 ⟨rfl, hB2⟩) | (go_at_call 77; (with_reducible refine (HN.out _).mono ?_); rintro e w' ⟨rfl, rfl⟩))
      go_ret
      exact ⟨by rw [HV.out]; simp [q0, q1], (form1 w _).trans (hB2.mono (form1 w _).size)⟩
    · go_enter Tryz.func58, Tryz.ntmps58
      go_wp2_with (first | (go_at_call 78; (with_reducible refine (HO.out _).mono ?_); rintro e w2 ⟨rfl, hB2⟩) | (go_at_call 77; (with_reducible refine (HN.out _).mono ?_); rintro e w' ⟨rfl, rfl⟩))
      go_ret
      exact ⟨by rw [HV.out]; simp [q0, q1], (form1 w _).trans (hB2.mono (form1 w _).size)⟩
set_option maxRecDepth 20000 in
set_option maxHeartbeats 4000000 in
theorem aitem_3_t (op rd a b n : Int) (s : ByteArray) (_hs : s.size ≤ maxLen) (w : World) : Calls Tryz.prog 58 #[.agg #[.int .i64 3, .string s, .int .i64 op, .int .i64 rd, .int .i64 a, .int .i64 b, .int .i64 n], .bool false] w (ErrTo (itemE ⟨3, s, op, rd, a, b, n⟩ false) w) := by
  obtain ⟨v, hv⟩ : ∃ v, v = itemE ⟨3, s, op, rd, a, b, n⟩ false := ⟨_, rfl⟩
  rw [← hv]
  have hv2 : v = if (inB2 rd 0 31) && onlyB s op rd a b n no 0 rd 0 0 n then 0 else 1 := hv
  have HV := Lib.hid hv2
  clear hv hv2
  have HO := Lib.hid (fun W => aonly_any 3 0 op rd a b n 0 rd 0 0 n s no W)
  generalize onlyB s op rd a b n no 0 rd 0 0 n = to at *
  unfold OnlyTo at HO
  unfold no at HO
  have HI0 := Lib.hid (fun W => aitem1_any rd 0 31 W)
  generalize inB2 rd 0 31 = ti0 at *
  clear _hs
  cases q0 : ti0
  · go_enter Tryz.func58, Tryz.ntmps58
    go_wp2_with (first | (go_at_call 78; (with_reducible refine (HO.out _).mono ?_); rintro e w2 ⟨rfl, hB2⟩) | (go_at_call 76; (with_reducible refine (HI0.out _).mono ?_); rintro e w' ⟨rfl, rfl⟩))
    go_ret
    exact ⟨by rw [HV.out]; simp [q0], form1 w _⟩
  · cases q1 : to
    · go_enter Tryz.func58, Tryz.ntmps58
      go_wp2_with (first | (go_at_call 78; (with_reducible refine (HO.out _).mono ?_); rintro e w2 ⟨rfl, hB2⟩) | (go_at_call 76; (with_reducible refine (HI0.out _).mono ?_); rintro e w' ⟨rfl, rfl⟩))
      go_ret
      exact ⟨by rw [HV.out]; simp [q0, q1], (form1 w _).trans (hB2.mono (form1 w _).size)⟩
    · go_enter Tryz.func58, Tryz.ntmps58
      go_wp2_with (first | (go_at_call 78; (with_reducible refine (HO.out _).mono ?_); rintro e w2 ⟨rfl, hB2⟩) | (go_at_call 76; (with_reducible refine (HI0.out _).mono ?_); rintro e w' ⟨rfl, rfl⟩))
      go_ret
      exact ⟨by rw [HV.out]; simp [q0, q1], (form1 w _).trans (hB2.mono (form1 w _).size)⟩
set_option maxRecDepth 20000 in
set_option maxHeartbeats 4000000 in
theorem aitem_4_t (op rd a b n : Int) (s : ByteArray) (hs : s.size ≤ maxLen) (w : World) : Calls Tryz.prog 58 #[.agg #[.int .i64 4, .string s, .int .i64 op, .int .i64 rd, .int .i64 a, .int .i64 b, .int .i64 n], .bool false] w (ErrTo (itemE ⟨4, s, op, rd, a, b, n⟩ false) w) := by
  obtain ⟨v, hv⟩ : ∃ v, v = itemE ⟨4, s, op, rd, a, b, n⟩ false := ⟨_, rfl⟩
  rw [← hv]
  have hv2 : v = if ((inB2 rd 1 31) && namedB s) && onlyB s op rd a b n s 0 rd 0 0 0 then 0 else 1 := hv
  have HV := Lib.hid hv2
  clear hv hv2
  have HO := Lib.hid (fun W => aonly_any 4 0 op rd a b n 0 rd 0 0 0 s s W)
  generalize onlyB s op rd a b n s 0 rd 0 0 0 = to at *
  unfold OnlyTo at HO
  have HN := Lib.hid (fun W => anamed_any s hs W)
  generalize namedB s = tn at *
  have HI0 := Lib.hid (fun W => aitem1_any rd 1 31 W)
  generalize inB2 rd 1 31 = ti0 at *
  clear hs
  cases q0 : ti0
  · go_enter Tryz.func58, Tryz.ntmps58
    go_wp2_with (first | (go_at_call 78; (with_reducible refine (HO.out _).mono ?_); rintro e w2 ⟨rfl, hB2⟩) | (go_at_call 77; (with_reducible refine (HN.out _).mono ?_); rintro e w' ⟨rfl, rfl⟩) | (go_at_call 76; (with_reducible refine (HI0.out _).mono ?_); rintro e w' ⟨rfl, rfl⟩))
    go_ret
    exact ⟨by rw [HV.out]; simp [q0], form1 w _⟩
  · cases q1 : tn
    · go_enter Tryz.func58, Tryz.ntmps58
      go_wp2_with (first | (go_at_call 78; (with_reducible refine (HO.out _).mono ?_); rintro e w2 ⟨rfl, hB2⟩) | (go_at_call 77; (with_reducible refine (HN.out _).mono ?_); rintro e w' ⟨rfl, rfl⟩) | (go_at_call 76; (with_reducible refine (HI0.out _).mono ?_); rintro e w' ⟨rfl, rfl⟩))
      go_ret
      exact ⟨by rw [HV.out]; simp [q0, q1], form1 w _⟩
    · cases q2 : to
      · go_enter Tryz.func58, Tryz.ntmps58
        go_wp2_with (first | (go_at_call 78; (with_reducible refine (HO.out _).mono ?_); rintro e w2 ⟨rfl, hB2⟩) | (go_at_call 77; (with_reducible refine (HN.out _).mono ?_); rintro e w' ⟨rfl, rfl⟩) | (go_at_call 76; (with_reducible refine (HI0.out _).mono ?_); rintro e w' ⟨rfl, rfl⟩))
        go_ret
        exact ⟨by rw [HV.out]; simp [q0, q1, q2], (form1 w _).trans (hB2.mono (form1 w _).size)⟩
      · go_enter Tryz.func58, Tryz.ntmps58
        go_wp2_with (first | (go_at_call 78; (with_reducible refine (HO.out _).mono ?_); rintro e w2 ⟨rfl, hB2⟩) | (go_at_call 77; (with_reducible refine (HN.out _).mono ?_); rintro e w' ⟨rfl, rfl⟩) | (go_at_call 76; (with_reducible refine (HI0.out _).mono ?_); rintro e w' ⟨rfl, rfl⟩))
        go_ret
        exact ⟨by rw [HV.out]; simp [q0, q1, q2], (form1 w _).trans (hB2.mono (form1 w _).size)⟩
set_option maxRecDepth 20000 in
set_option maxHeartbeats 4000000 in
theorem aitem_6_t (op rd a b n : Int) (s : ByteArray) (hs : s.size ≤ maxLen) (w : World) : Calls Tryz.prog 58 #[.agg #[.int .i64 6, .string s, .int .i64 op, .int .i64 rd, .int .i64 a, .int .i64 b, .int .i64 n], .bool false] w (ErrTo (itemE ⟨6, s, op, rd, a, b, n⟩ false) w) := by
  obtain ⟨v, hv⟩ : ∃ v, v = itemE ⟨6, s, op, rd, a, b, n⟩ false := ⟨_, rfl⟩
  rw [← hv]
  have hv2 : v = if ((inB2 rd 1 31) && namedB s) && onlyB s op rd a b n s 0 rd 0 0 0 then 0 else 1 := hv
  have HV := Lib.hid hv2
  clear hv hv2
  have HO := Lib.hid (fun W => aonly_any 6 0 op rd a b n 0 rd 0 0 0 s s W)
  generalize onlyB s op rd a b n s 0 rd 0 0 0 = to at *
  unfold OnlyTo at HO
  have HN := Lib.hid (fun W => anamed_any s hs W)
  generalize namedB s = tn at *
  have HI0 := Lib.hid (fun W => aitem1_any rd 1 31 W)
  generalize inB2 rd 1 31 = ti0 at *
  clear hs
  cases q0 : ti0
  · go_enter Tryz.func58, Tryz.ntmps58
    go_wp2_with (first | (go_at_call 78; (with_reducible refine (HO.out _).mono ?_); rintro e w2 ⟨rfl, hB2⟩) | (go_at_call 77; (with_reducible refine (HN.out _).mono ?_); rintro e w' ⟨rfl, rfl⟩) | (go_at_call 76; (with_reducible refine (HI0.out _).mono ?_); rintro e w' ⟨rfl, rfl⟩))
    go_ret
    exact ⟨by rw [HV.out]; simp [q0], form1 w _⟩
  · cases q1 : tn
    · go_enter Tryz.func58, Tryz.ntmps58
      go_wp2_with (first | (go_at_call 78; (with_reducible refine (HO.out _).mono ?_); rintro e w2 ⟨rfl, hB2⟩) | (go_at_call 77; (with_reducible refine (HN.out _).mono ?_); rintro e w' ⟨rfl, rfl⟩) | (go_at_call 76; (with_reducible refine (HI0.out _).mono ?_); rintro e w' ⟨rfl, rfl⟩))
      go_ret
      exact ⟨by rw [HV.out]; simp [q0, q1], form1 w _⟩
    · cases q2 : to
      · go_enter Tryz.func58, Tryz.ntmps58
        go_wp2_with (first | (go_at_call 78; (with_reducible refine (HO.out _).mono ?_); rintro e w2 ⟨rfl, hB2⟩) | (go_at_call 77; (with_reducible refine (HN.out _).mono ?_); rintro e w' ⟨rfl, rfl⟩) | (go_at_call 76; (with_reducible refine (HI0.out _).mono ?_); rintro e w' ⟨rfl, rfl⟩))
        go_ret
        exact ⟨by rw [HV.out]; simp [q0, q1, q2], (form1 w _).trans (hB2.mono (form1 w _).size)⟩
      · go_enter Tryz.func58, Tryz.ntmps58
        go_wp2_with (first | (go_at_call 78; (with_reducible refine (HO.out _).mono ?_); rintro e w2 ⟨rfl, hB2⟩) | (go_at_call 77; (with_reducible refine (HN.out _).mono ?_); rintro e w' ⟨rfl, rfl⟩) | (go_at_call 76; (with_reducible refine (HI0.out _).mono ?_); rintro e w' ⟨rfl, rfl⟩))
        go_ret
        exact ⟨by rw [HV.out]; simp [q0, q1, q2], (form1 w _).trans (hB2.mono (form1 w _).size)⟩
set_option maxRecDepth 20000 in
set_option maxHeartbeats 4000000 in
theorem aitem_5_t (op rd a b n : Int) (s : ByteArray) (hs : s.size ≤ maxLen) (w : World) : Calls Tryz.prog 58 #[.agg #[.int .i64 5, .string s, .int .i64 op, .int .i64 rd, .int .i64 a, .int .i64 b, .int .i64 n], .bool false] w (ErrTo (itemE ⟨5, s, op, rd, a, b, n⟩ false) w) := by
  obtain ⟨v, hv⟩ : ∃ v, v = itemE ⟨5, s, op, rd, a, b, n⟩ false := ⟨_, rfl⟩
  rw [← hv]
  have hv2 : v = if (namedB s) && onlyB s op rd a b n s 0 0 0 0 0 then 0 else 1 := hv
  have HV := Lib.hid hv2
  clear hv hv2
  have HO := Lib.hid (fun W => aonly_any 5 0 op rd a b n 0 0 0 0 0 s s W)
  generalize onlyB s op rd a b n s 0 0 0 0 0 = to at *
  unfold OnlyTo at HO
  have HN := Lib.hid (fun W => anamed_any s hs W)
  generalize namedB s = tn at *
  clear hs
  cases q0 : tn
  · go_enter Tryz.func58, Tryz.ntmps58
    go_wp2_with (first | (go_at_call 78; (with_reducible refine (HO.out _).mono ?_); rintro e w2 ⟨rfl, hB2⟩) | (go_at_call 77; (with_reducible refine (HN.out _).mono ?_); rintro e w' ⟨rfl, rfl⟩))
    go_ret
    exact ⟨by rw [HV.out]; simp [q0], form1 w _⟩
  · cases q1 : to
    · go_enter Tryz.func58, Tryz.ntmps58
      go_wp2_with (first | (go_at_call 78; (with_reducible refine (HO.out _).mono ?_); rintro e w2 ⟨rfl, hB2⟩) | (go_at_call 77; (with_reducible refine (HN.out _).mono ?_); rintro e w' ⟨rfl, rfl⟩))
      go_ret
      exact ⟨by rw [HV.out]; simp [q0, q1], (form1 w _).trans (hB2.mono (form1 w _).size)⟩
    · go_enter Tryz.func58, Tryz.ntmps58
      go_wp2_with (first | (go_at_call 78; (with_reducible refine (HO.out _).mono ?_); rintro e w2 ⟨rfl, hB2⟩) | (go_at_call 77; (with_reducible refine (HN.out _).mono ?_); rintro e w' ⟨rfl, rfl⟩))
      go_ret
      exact ⟨by rw [HV.out]; simp [q0, q1], (form1 w _).trans (hB2.mono (form1 w _).size)⟩
set_option maxRecDepth 20000 in
set_option maxHeartbeats 4000000 in
theorem aitem_7_t (op rd a b n : Int) (s : ByteArray) (hs : s.size ≤ maxLen) (w : World) : Calls Tryz.prog 58 #[.agg #[.int .i64 7, .string s, .int .i64 op, .int .i64 rd, .int .i64 a, .int .i64 b, .int .i64 n], .bool false] w (ErrTo (itemE ⟨7, s, op, rd, a, b, n⟩ false) w) := by
  obtain ⟨v, hv⟩ : ∃ v, v = itemE ⟨7, s, op, rd, a, b, n⟩ false := ⟨_, rfl⟩
  rw [← hv]
  have hv2 : v = if ((((namedB s) && inB2 op 5 10) && inB2 a 0 31) && inB2 b 0 31) && onlyB s op rd a b n s op 0 a b 0 then 0 else 1 := hv
  have HV := Lib.hid hv2
  clear hv hv2
  have HO := Lib.hid (fun W => aonly_any 7 0 op rd a b n op 0 a b 0 s s W)
  generalize onlyB s op rd a b n s op 0 a b 0 = to at *
  unfold OnlyTo at HO
  have HN := Lib.hid (fun W => anamed_any s hs W)
  generalize namedB s = tn at *
  have HI1 := Lib.hid (fun W => aitem1_any op 5 10 W)
  generalize inB2 op 5 10 = ti1 at *
  have HI2 := Lib.hid (fun W => aitem1_any a 0 31 W)
  generalize inB2 a 0 31 = ti2 at *
  have HI3 := Lib.hid (fun W => aitem1_any b 0 31 W)
  generalize inB2 b 0 31 = ti3 at *
  clear hs
  cases q0 : tn
  · go_enter Tryz.func58, Tryz.ntmps58
    go_wp2_with (first | (go_at_call 78; (with_reducible refine (HO.out _).mono ?_); rintro e w2 ⟨rfl, hB2⟩) | (go_at_call 77; (with_reducible refine (HN.out _).mono ?_); rintro e w' ⟨rfl, rfl⟩) | (go_at_call 76; (with_reducible refine (HI1.out _).mono ?_); rintro e w' ⟨rfl, rfl⟩) | (go_at_call 76; (with_reducible refine (HI2.out _).mono ?_); rintro e w' ⟨rfl, rfl⟩) | (go_at_call 76; (with_reducible refine (HI3.out _).mono ?_); rintro e w' ⟨rfl, rfl⟩))
    go_ret
    exact ⟨by rw [HV.out]; simp [q0], form1 w _⟩
  · cases q1 : ti1
    · go_enter Tryz.func58, Tryz.ntmps58
      go_wp2_with (first | (go_at_call 78; (with_reducible refine (HO.out _).mono ?_); rintro e w2 ⟨rfl, hB2⟩) | (go_at_call 77; (with_reducible refine (HN.out _).mono ?_); rintro e w' ⟨rfl, rfl⟩) | (go_at_call 76; (with_reducible refine (HI1.out _).mono ?_); rintro e w' ⟨rfl, rfl⟩) | (go_at_call 76; (with_reducible refine (HI2.out _).mono ?_); rintro e w' ⟨rfl, rfl⟩) | (go_at_call 76; (with_reducible refine (HI3.out _).mono ?_); rintro e w' ⟨rfl, rfl⟩))
      go_ret
      exact ⟨by rw [HV.out]; simp [q0, q1], form1 w _⟩
    · cases q2 : ti2
      · go_enter Tryz.func58, Tryz.ntmps58
        go_wp2_with (first | (go_at_call 78; (with_reducible refine (HO.out _).mono ?_); rintro e w2 ⟨rfl, hB2⟩) | (go_at_call 77; (with_reducible refine (HN.out _).mono ?_); rintro e w' ⟨rfl, rfl⟩) | (go_at_call 76; (with_reducible refine (HI1.out _).mono ?_); rintro e w' ⟨rfl, rfl⟩) | (go_at_call 76; (with_reducible refine (HI2.out _).mono ?_); rintro e w' ⟨rfl, rfl⟩) | (go_at_call 76; (with_reducible refine (HI3.out _).mono ?_); rintro e w' ⟨rfl, rfl⟩))
        go_ret
        exact ⟨by rw [HV.out]; simp [q0, q1, q2], form1 w _⟩
      · cases q3 : ti3
        · go_enter Tryz.func58, Tryz.ntmps58
          go_wp2_with (first | (go_at_call 78; (with_reducible refine (HO.out _).mono ?_); rintro e w2 ⟨rfl, hB2⟩) | (go_at_call 77; (with_reducible refine (HN.out _).mono ?_); rintro e w' ⟨rfl, rfl⟩) | (go_at_call 76; (with_reducible refine (HI1.out _).mono ?_); rintro e w' ⟨rfl, rfl⟩) | (go_at_call 76; (with_reducible refine (HI2.out _).mono ?_); rintro e w' ⟨rfl, rfl⟩) | (go_at_call 76; (with_reducible refine (HI3.out _).mono ?_); rintro e w' ⟨rfl, rfl⟩))
          go_ret
          exact ⟨by rw [HV.out]; simp [q0, q1, q2, q3], form1 w _⟩
        · cases q4 : to
          · go_enter Tryz.func58, Tryz.ntmps58
            go_wp2_with (first | (go_at_call 78; (with_reducible refine (HO.out _).mono ?_); rintro e w2 ⟨rfl, hB2⟩) | (go_at_call 77; (with_reducible refine (HN.out _).mono ?_); rintro e w' ⟨rfl, rfl⟩) | (go_at_call 76; (with_reducible refine (HI1.out _).mono ?_); rintro e w' ⟨rfl, rfl⟩) | (go_at_call 76; (with_reducible refine (HI2.out _).mono ?_); rintro e w' ⟨rfl, rfl⟩) | (go_at_call 76; (with_reducible refine (HI3.out _).mono ?_); rintro e w' ⟨rfl, rfl⟩))
            go_ret
            exact ⟨by rw [HV.out]; simp [q0, q1, q2, q3, q4], (form1 w _).trans (hB2.mono (form1 w _).size)⟩
          · go_enter Tryz.func58, Tryz.ntmps58
            go_wp2_with (first | (go_at_call 78; (with_reducible refine (HO.out _).mono ?_); rintro e w2 ⟨rfl, hB2⟩) | (go_at_call 77; (with_reducible refine (HN.out _).mono ?_); rintro e w' ⟨rfl, rfl⟩) | (go_at_call 76; (with_reducible refine (HI1.out _).mono ?_); rintro e w' ⟨rfl, rfl⟩) | (go_at_call 76; (with_reducible refine (HI2.out _).mono ?_); rintro e w' ⟨rfl, rfl⟩) | (go_at_call 76; (with_reducible refine (HI3.out _).mono ?_); rintro e w' ⟨rfl, rfl⟩))
            go_ret
            exact ⟨by rw [HV.out]; simp [q0, q1, q2, q3, q4], (form1 w _).trans (hB2.mono (form1 w _).size)⟩
set_option maxRecDepth 20000 in
set_option maxHeartbeats 4000000 in
theorem aitem_8_t (op rd a b n : Int) (s : ByteArray) (_hs : s.size ≤ maxLen) (w : World) : Calls Tryz.prog 58 #[.agg #[.int .i64 8, .string s, .int .i64 op, .int .i64 rd, .int .i64 a, .int .i64 b, .int .i64 n], .bool false] w (ErrTo (itemE ⟨8, s, op, rd, a, b, n⟩ false) w) := by
  obtain ⟨v, hv⟩ : ∃ v, v = itemE ⟨8, s, op, rd, a, b, n⟩ false := ⟨_, rfl⟩
  rw [← hv]
  have hv2 : v = if onlyB s op rd a b n no 0 0 0 0 n then 0 else 1 := hv
  have HV := Lib.hid hv2
  clear hv hv2
  have HO := Lib.hid (fun W => aonly_any 8 0 op rd a b n 0 0 0 0 n s no W)
  generalize onlyB s op rd a b n no 0 0 0 0 n = to at *
  unfold OnlyTo at HO
  unfold no at HO
  clear _hs
  cases q0 : to
  · go_enter Tryz.func58, Tryz.ntmps58
    go_wp2_with (first | (go_at_call 78; (with_reducible refine (HO.out _).mono ?_); rintro e w2 ⟨rfl, hB2⟩))
    go_ret
    exact ⟨by rw [HV.out]; simp [q0], (form1 w _).trans (hB2.mono (form1 w _).size)⟩
  · go_enter Tryz.func58, Tryz.ntmps58
    go_wp2_with (first | (go_at_call 78; (with_reducible refine (HO.out _).mono ?_); rintro e w2 ⟨rfl, hB2⟩))
    go_ret
    exact ⟨by rw [HV.out]; simp [q0], (form1 w _).trans (hB2.mono (form1 w _).size)⟩
set_option maxRecDepth 20000 in
set_option maxHeartbeats 4000000 in
theorem aitem_1_d (op rd a b n : Int) (s : ByteArray) (hs : s.size ≤ maxLen) (w : World) : Calls Tryz.prog 58 #[.agg #[.int .i64 1, .string s, .int .i64 op, .int .i64 rd, .int .i64 a, .int .i64 b, .int .i64 n], .bool true] w (ErrTo (itemE ⟨1, s, op, rd, a, b, n⟩ true) w) := by
  obtain ⟨v, hv⟩ : ∃ v, v = itemE ⟨1, s, op, rd, a, b, n⟩ true := ⟨_, rfl⟩
  rw [← hv]
  have hv2 : v = if (namedB s) && onlyB s op rd a b n s 0 0 0 0 0 then 0 else 1 := hv
  have HV := Lib.hid hv2
  clear hv hv2
  have HO := Lib.hid (fun W => aonly_any 1 0 op rd a b n 0 0 0 0 0 s s W)
  generalize onlyB s op rd a b n s 0 0 0 0 0 = to at *
  unfold OnlyTo at HO
  have HN := Lib.hid (fun W => anamed_any s hs W)
  generalize namedB s = tn at *
  clear hs
  cases q0 : tn
  · go_enter Tryz.func58, Tryz.ntmps58
    go_wp2_with (first | (go_at_call 78; (with_reducible refine (HO.out _).mono ?_); rintro e w2 ⟨rfl, hB2⟩) | (go_at_call 77; (with_reducible refine (HN.out _).mono ?_); rintro e w' ⟨rfl, rfl⟩))
    go_ret
    exact ⟨by rw [HV.out]; simp [q0], form1 w _⟩
  · cases q1 : to
    · go_enter Tryz.func58, Tryz.ntmps58
      go_wp2_with (first | (go_at_call 78; (with_reducible refine (HO.out _).mono ?_); rintro e w2 ⟨rfl, hB2⟩) | (go_at_call 77; (with_reducible refine (HN.out _).mono ?_); rintro e w' ⟨rfl, rfl⟩))
      go_ret
      exact ⟨by rw [HV.out]; simp [q0, q1], (form1 w _).trans (hB2.mono (form1 w _).size)⟩
    · go_enter Tryz.func58, Tryz.ntmps58
      go_wp2_with (first | (go_at_call 78; (with_reducible refine (HO.out _).mono ?_); rintro e w2 ⟨rfl, hB2⟩) | (go_at_call 77; (with_reducible refine (HN.out _).mono ?_); rintro e w' ⟨rfl, rfl⟩))
      go_ret
      exact ⟨by rw [HV.out]; simp [q0, q1], (form1 w _).trans (hB2.mono (form1 w _).size)⟩
set_option maxRecDepth 20000 in
set_option maxHeartbeats 4000000 in
theorem aitem_8_d (op rd a b n : Int) (s : ByteArray) (_hs : s.size ≤ maxLen) (w : World) : Calls Tryz.prog 58 #[.agg #[.int .i64 8, .string s, .int .i64 op, .int .i64 rd, .int .i64 a, .int .i64 b, .int .i64 n], .bool true] w (ErrTo (itemE ⟨8, s, op, rd, a, b, n⟩ true) w) := by
  obtain ⟨v, hv⟩ : ∃ v, v = itemE ⟨8, s, op, rd, a, b, n⟩ true := ⟨_, rfl⟩
  rw [← hv]
  have hv2 : v = if onlyB s op rd a b n no 0 0 0 0 n then 0 else 1 := hv
  have HV := Lib.hid hv2
  clear hv hv2
  have HO := Lib.hid (fun W => aonly_any 8 0 op rd a b n 0 0 0 0 n s no W)
  generalize onlyB s op rd a b n no 0 0 0 0 n = to at *
  unfold OnlyTo at HO
  unfold no at HO
  clear _hs
  cases q0 : to
  · go_enter Tryz.func58, Tryz.ntmps58
    go_wp2_with (first | (go_at_call 78; (with_reducible refine (HO.out _).mono ?_); rintro e w2 ⟨rfl, hB2⟩))
    go_ret
    exact ⟨by rw [HV.out]; simp [q0], (form1 w _).trans (hB2.mono (form1 w _).size)⟩
  · go_enter Tryz.func58, Tryz.ntmps58
    go_wp2_with (first | (go_at_call 78; (with_reducible refine (HO.out _).mono ?_); rintro e w2 ⟨rfl, hB2⟩))
    go_ret
    exact ⟨by rw [HV.out]; simp [q0], (form1 w _).trans (hB2.mono (form1 w _).size)⟩
set_option maxRecDepth 20000 in
set_option maxHeartbeats 4000000 in
theorem aitem_3_d (op rd a b n : Int) (s : ByteArray) (w : World) : Calls Tryz.prog 58 #[.agg #[.int .i64 3, .string s, .int .i64 op, .int .i64 rd, .int .i64 a, .int .i64 b, .int .i64 n], .bool true] w (ErrTo (itemE ⟨3, s, op, rd, a, b, n⟩ true) w) := by
  obtain ⟨v, hv⟩ : ∃ v, v = itemE ⟨3, s, op, rd, a, b, n⟩ true := ⟨_, rfl⟩
  rw [← hv]
  have HV := Lib.hid (show v = 1 by rw [hv]; simp [itemE, okI])
  clear hv
  go_enter Tryz.func58, Tryz.ntmps58
  go_wp2
  all_goals go_ret
  all_goals exact ⟨by rw [HV.out]; rfl, form1 w _⟩
set_option maxRecDepth 20000 in
set_option maxHeartbeats 4000000 in
theorem aitem_4_d (op rd a b n : Int) (s : ByteArray) (w : World) : Calls Tryz.prog 58 #[.agg #[.int .i64 4, .string s, .int .i64 op, .int .i64 rd, .int .i64 a, .int .i64 b, .int .i64 n], .bool true] w (ErrTo (itemE ⟨4, s, op, rd, a, b, n⟩ true) w) := by
  obtain ⟨v, hv⟩ : ∃ v, v = itemE ⟨4, s, op, rd, a, b, n⟩ true := ⟨_, rfl⟩
  rw [← hv]
  have HV := Lib.hid (show v = 1 by rw [hv]; simp [itemE, okI])
  clear hv
  go_enter Tryz.func58, Tryz.ntmps58
  go_wp2
  all_goals go_ret
  all_goals exact ⟨by rw [HV.out]; rfl, form1 w _⟩
set_option maxRecDepth 20000 in
set_option maxHeartbeats 4000000 in
theorem aitem_5_d (op rd a b n : Int) (s : ByteArray) (w : World) : Calls Tryz.prog 58 #[.agg #[.int .i64 5, .string s, .int .i64 op, .int .i64 rd, .int .i64 a, .int .i64 b, .int .i64 n], .bool true] w (ErrTo (itemE ⟨5, s, op, rd, a, b, n⟩ true) w) := by
  obtain ⟨v, hv⟩ : ∃ v, v = itemE ⟨5, s, op, rd, a, b, n⟩ true := ⟨_, rfl⟩
  rw [← hv]
  have HV := Lib.hid (show v = 1 by rw [hv]; simp [itemE, okI])
  clear hv
  go_enter Tryz.func58, Tryz.ntmps58
  go_wp2
  all_goals go_ret
  all_goals exact ⟨by rw [HV.out]; rfl, form1 w _⟩
set_option maxRecDepth 20000 in
set_option maxHeartbeats 4000000 in
theorem aitem_6_d (op rd a b n : Int) (s : ByteArray) (w : World) : Calls Tryz.prog 58 #[.agg #[.int .i64 6, .string s, .int .i64 op, .int .i64 rd, .int .i64 a, .int .i64 b, .int .i64 n], .bool true] w (ErrTo (itemE ⟨6, s, op, rd, a, b, n⟩ true) w) := by
  obtain ⟨v, hv⟩ : ∃ v, v = itemE ⟨6, s, op, rd, a, b, n⟩ true := ⟨_, rfl⟩
  rw [← hv]
  have HV := Lib.hid (show v = 1 by rw [hv]; simp [itemE, okI])
  clear hv
  go_enter Tryz.func58, Tryz.ntmps58
  go_wp2
  all_goals go_ret
  all_goals exact ⟨by rw [HV.out]; rfl, form1 w _⟩
set_option maxRecDepth 20000 in
set_option maxHeartbeats 4000000 in
theorem aitem_7_d (op rd a b n : Int) (s : ByteArray) (w : World) : Calls Tryz.prog 58 #[.agg #[.int .i64 7, .string s, .int .i64 op, .int .i64 rd, .int .i64 a, .int .i64 b, .int .i64 n], .bool true] w (ErrTo (itemE ⟨7, s, op, rd, a, b, n⟩ true) w) := by
  obtain ⟨v, hv⟩ : ∃ v, v = itemE ⟨7, s, op, rd, a, b, n⟩ true := ⟨_, rfl⟩
  rw [← hv]
  have HV := Lib.hid (show v = 1 by rw [hv]; simp [itemE, okI])
  clear hv
  go_enter Tryz.func58, Tryz.ntmps58
  go_wp2
  all_goals go_ret
  all_goals exact ⟨by rw [HV.out]; rfl, form1 w _⟩
set_option maxRecDepth 20000 in
set_option maxHeartbeats 4000000 in
theorem aitem_2_d (op rd a b n : Int) (s : ByteArray) (w : World) : Calls Tryz.prog 58 #[.agg #[.int .i64 2, .string s, .int .i64 op, .int .i64 rd, .int .i64 a, .int .i64 b, .int .i64 n], .bool true] w (ErrTo (itemE ⟨2, s, op, rd, a, b, n⟩ true) w) := by
  obtain ⟨v, hv⟩ : ∃ v, v = itemE ⟨2, s, op, rd, a, b, n⟩ true := ⟨_, rfl⟩
  rw [← hv]
  have HV := Lib.hid (show v = 1 by rw [hv]; simp [itemE, okI])
  clear hv
  cases t1 : (s.toList == [])
  all_goals
    go_enter Tryz.func58, Tryz.ntmps58
    go_wp2
    all_goals go_ret
    all_goals exact ⟨by rw [HV.out]; rfl, form1 w _⟩
set_option maxRecDepth 20000 in
set_option maxHeartbeats 4000000 in
theorem aitem_2_t (op rd a b n : Int) (s : ByteArray) (w : World) (hR : RvRows w) : Calls Tryz.prog 58 #[.agg #[.int .i64 2, .string s, .int .i64 op, .int .i64 rd, .int .i64 a, .int .i64 b, .int .i64 n], .bool false] w (ErrTo (itemE ⟨2, s, op, rd, a, b, n⟩ false) w) := by
  obtain ⟨v, hv⟩ : ∃ v, v = itemE ⟨2, s, op, rd, a, b, n⟩ false := ⟨_, rfl⟩
  rw [← hv]
  have hv2 : v = if rightI op rd a b n = false then 11 else if s.toList == [] then 0 else 1 := by rw [hv]; simp [itemE, okI]
  have HV := Lib.hid hv2
  clear hv hv2
  have hR0 := hR.below (form1 w (.cells #[.int .i64 2, .string s, .int .i64 op, .int .i64 rd, .int .i64 a, .int .i64 b, .int .i64 n] 28))
  clear hR
  have HC := Lib.hid (fun W (hW : RvRows W) => rvCheck_any op rd a b n W hW)
  unfold CheckTo insE at HC
  cases hr : rightI op rd a b n
  · rw [hr] at HC
    go_enter Tryz.func58, Tryz.ntmps58
    go_wp2_with fail
    refine Calls.mono (HC.out _ hR0) ?_
    rintro e w2 ⟨rfl, hB2⟩
    go_wp2
    go_ret
    exact ⟨by rw [HV.out, hr]; rfl, (form1 w _).trans (hB2.mono (form1 w _).size)⟩
  · rw [hr] at HC
    cases t1 : (s.toList == [])
    all_goals
      go_enter Tryz.func58, Tryz.ntmps58
      go_wp2_with fail
      refine Calls.mono (HC.out _ hR0) ?_
      rintro e w2 ⟨rfl, hB2⟩
      have hb2 : w2.heap[w.heap.size]? = some (.cells #[.int .i64 2, .string s, .int .i64 op, .int .i64 rd, .int .i64 a, .int .i64 b, .int .i64 n] 28 (0, 0)) := (hB2.block _ (by rw [World.size_alloc]; omega)).trans (heap_alloc_new w _)
      have x1 : w2.cell? ⟨w.heap.size, 1, none⟩ = some (.string s) := (obj_cell hb2 1).trans rfl
      clear hb2
      go_wp2
      all_goals go_ret
      all_goals exact ⟨by rw [HV.out, hr]; simp [t1], (form1 w _).trans (hB2.mono (form1 w _).size)⟩
set_option maxRecDepth 20000 in
set_option maxHeartbeats 4000000 in
theorem aitem_x (k op rd a b n : Int) (s : ByteArray) (d : Bool) (hk : k < 1 ∨ 9 < k) (w : World) : Calls Tryz.prog 58 #[.agg #[.int .i64 k, .string s, .int .i64 op, .int .i64 rd, .int .i64 a, .int .i64 b, .int .i64 n], .bool d] w (ErrTo (itemE ⟨k, s, op, rd, a, b, n⟩ d) w) := by
  obtain ⟨v, hv⟩ : ∃ v, v = itemE ⟨k, s, op, rd, a, b, n⟩ d := ⟨_, rfl⟩
  rw [← hv]
  have k1 : ¬ k = 1 := by omega
  have k2 : ¬ k = 2 := by omega
  have k3 : ¬ k = 3 := by omega
  have k4 : ¬ k = 4 := by omega
  have k5 : ¬ k = 5 := by omega
  have k6 : ¬ k = 6 := by omega
  have k7 : ¬ k = 7 := by omega
  have k8 : ¬ k = 8 := by omega
  have k9 : ¬ k = 9 := by omega
  have HV := Lib.hid (show v = 1 by rw [hv]; simp [itemE, okI, k1, k2, k3, k4, k5, k6, k7, k8, k9])
  have f1 : (k == 1) = false := by simpa using k1
  have f2 : (k == 2) = false := by simpa using k2
  have f3 : (k == 3) = false := by simpa using k3
  have f4 : (k == 4) = false := by simpa using k4
  have f5 : (k == 5) = false := by simpa using k5
  have f6 : (k == 6) = false := by simpa using k6
  have f7 : (k == 7) = false := by simpa using k7
  have f8 : (k == 8) = false := by simpa using k8
  have f9 : (k == 9) = false := by simpa using k9
  clear hv hk k1 k2 k3 k4 k5 k6 k7 k8 k9
  go_enter Tryz.func58, Tryz.ntmps58
  go_wp2
  go_ret
  exact ⟨by rw [HV.out]; rfl, form1 w _⟩
theorem of_tmod (n m : Int) (h : 0 ≤ n) : n.tmod m = n % m := Int.tmod_eq_emod_of_nonneg h
set_option maxRecDepth 20000 in
set_option maxHeartbeats 4000000 in
theorem aitem_9_t (op rd a b n : Int) (s : ByteArray) (w : World) : Calls Tryz.prog 58 #[.agg #[.int .i64 9, .string s, .int .i64 op, .int .i64 rd, .int .i64 a, .int .i64 b, .int .i64 n], .bool false] w (ErrTo (itemE ⟨9, s, op, rd, a, b, n⟩ false) w) := by
  obtain ⟨v, hv⟩ : ∃ v, v = itemE ⟨9, s, op, rd, a, b, n⟩ false := ⟨_, rfl⟩
  rw [← hv]
  have hv2 : v = if ((decide (0 ≤ n) && decide (n ≤ 1048576)) && (false || (n.tmod 4 == 0))) && onlyB s op rd a b n no 0 0 0 0 n then 0 else 1 := by rw [hv]; simp [itemE, okI]
  have HV := Lib.hid hv2
  clear hv hv2
  have HO := Lib.hid (fun W => aonly_any 9 0 op rd a b n 0 0 0 0 n s no W)
  generalize onlyB s op rd a b n no 0 0 0 0 n = to at *
  unfold OnlyTo at HO
  unfold no at HO
  cases q0 : decide (0 ≤ n)
  · go_enter Tryz.func58, Tryz.ntmps58
    go_wp2
    all_goals go_ret
    all_goals exact ⟨by rw [HV.out]; simp [q0], form1 w _⟩
  · cases q1 : decide (n ≤ 1048576)
    · go_enter Tryz.func58, Tryz.ntmps58
      go_wp2
      all_goals go_ret
      all_goals exact ⟨by rw [HV.out]; simp [q0, q1], form1 w _⟩
    · cases q2 : (n.tmod 4 == 0)
      · have q2b := q2
        rw [of_tmod n 4 (of_decide_eq_true q0)] at q2b
        go_enter Tryz.func58, Tryz.ntmps58
        go_wp2
        all_goals go_ret
        all_goals exact ⟨by rw [HV.out]; simp [q0, q1, q2], form1 w _⟩
      · have q2b := q2
        rw [of_tmod n 4 (of_decide_eq_true q0)] at q2b
        cases q3 : to
        · go_enter Tryz.func58, Tryz.ntmps58
          go_wp2_with (first | (go_at_call 78; (with_reducible refine (HO.out _).mono ?_); rintro e w2 ⟨rfl, hB2⟩))
          all_goals go_ret
          all_goals exact ⟨by rw [HV.out]; simp [q0, q1, q2, q3], (form1 w _).trans (hB2.mono (form1 w _).size)⟩
        · go_enter Tryz.func58, Tryz.ntmps58
          go_wp2_with (first | (go_at_call 78; (with_reducible refine (HO.out _).mono ?_); rintro e w2 ⟨rfl, hB2⟩))
          all_goals go_ret
          all_goals exact ⟨by rw [HV.out]; simp [q0, q1, q2, q3], (form1 w _).trans (hB2.mono (form1 w _).size)⟩
set_option maxRecDepth 20000 in
set_option maxHeartbeats 4000000 in
theorem aitem_9_d (op rd a b n : Int) (s : ByteArray) (w : World) : Calls Tryz.prog 58 #[.agg #[.int .i64 9, .string s, .int .i64 op, .int .i64 rd, .int .i64 a, .int .i64 b, .int .i64 n], .bool true] w (ErrTo (itemE ⟨9, s, op, rd, a, b, n⟩ true) w) := by
  obtain ⟨v, hv⟩ : ∃ v, v = itemE ⟨9, s, op, rd, a, b, n⟩ true := ⟨_, rfl⟩
  rw [← hv]
  have hv2 : v = if ((decide (0 ≤ n) && decide (n ≤ 1048576)) && (true || (n.tmod 4 == 0))) && onlyB s op rd a b n no 0 0 0 0 n then 0 else 1 := by rw [hv]; simp [itemE, okI]
  have HV := Lib.hid hv2
  clear hv hv2
  have HO := Lib.hid (fun W => aonly_any 9 0 op rd a b n 0 0 0 0 n s no W)
  generalize onlyB s op rd a b n no 0 0 0 0 n = to at *
  unfold OnlyTo at HO
  unfold no at HO
  cases q0 : decide (0 ≤ n)
  · go_enter Tryz.func58, Tryz.ntmps58
    go_wp2
    all_goals go_ret
    all_goals exact ⟨by rw [HV.out]; simp [q0], form1 w _⟩
  · cases q1 : decide (n ≤ 1048576)
    · go_enter Tryz.func58, Tryz.ntmps58
      go_wp2
      all_goals go_ret
      all_goals exact ⟨by rw [HV.out]; simp [q0, q1], form1 w _⟩
    · cases q3 : to
      · go_enter Tryz.func58, Tryz.ntmps58
        go_wp2_with (first | (go_at_call 78; (with_reducible refine (HO.out _).mono ?_); rintro e w2 ⟨rfl, hB2⟩))
        all_goals go_ret
        all_goals exact ⟨by rw [HV.out]; simp [q0, q1, q3], (form1 w _).trans (hB2.mono (form1 w _).size)⟩
      · go_enter Tryz.func58, Tryz.ntmps58
        go_wp2_with (first | (go_at_call 78; (with_reducible refine (HO.out _).mono ?_); rintro e w2 ⟨rfl, hB2⟩))
        all_goals go_ret
        all_goals exact ⟨by rw [HV.out]; simp [q0, q1, q3], (form1 w _).trans (hB2.mono (form1 w _).size)⟩
theorem aitem_any (x : It) (d : Bool) (hs : x.s.size ≤ maxLen) (w : World) (hR : RvRows w) : Calls Tryz.prog 58 #[.agg x.cs, .bool d] w (ErrTo (itemE x d) w) := by
  obtain ⟨k, s, op, rd, a, b, n⟩ := x
  show Calls Tryz.prog 58 #[.agg #[.int .i64 k, .string s, .int .i64 op, .int .i64 rd, .int .i64 a, .int .i64 b, .int .i64 n], .bool d] w (ErrTo (itemE ⟨k, s, op, rd, a, b, n⟩ d) w)
  by_cases hk : k < 1 ∨ 9 < k
  · exact aitem_x k op rd a b n s d hk w
  · rcases (show k = 1 ∨ k = 2 ∨ k = 3 ∨ k = 4 ∨ k = 5 ∨ k = 6 ∨ k = 7 ∨ k = 8 ∨ k = 9 by omega) with rfl | rfl | rfl | rfl | rfl | rfl | rfl | rfl | rfl <;> cases d
    · exact aitem_1_t op rd a b n s hs w
    · exact aitem_1_d op rd a b n s hs w
    · exact aitem_2_t op rd a b n s w hR
    · exact aitem_2_d op rd a b n s w
    · exact aitem_3_t op rd a b n s hs w
    · exact aitem_3_d op rd a b n s w
    · exact aitem_4_t op rd a b n s hs w
    · exact aitem_4_d op rd a b n s w
    · exact aitem_5_t op rd a b n s hs w
    · exact aitem_5_d op rd a b n s w
    · exact aitem_6_t op rd a b n s hs w
    · exact aitem_6_d op rd a b n s w
    · exact aitem_7_t op rd a b n s hs w
    · exact aitem_7_d op rd a b n s w
    · exact aitem_8_t op rd a b n s hs w
    · exact aitem_8_d op rd a b n s hs w
    · exact aitem_9_t op rd a b n s w
    · exact aitem_9_d op rd a b n s w
end Go.Proofs

/- Items in memory; (*program).item. -/
namespace Go.Pat
open Go Go.RowKit
def It.cells (x : It) : List Value := [.int .i64 x.k, .string x.s, .int .i64 x.op, .int .i64 x.rd, .int .i64 x.a, .int .i64 x.b, .int .i64 x.n]
def tcells : List It → List Value
  | [] => []
  | i :: r => i.cells ++ tcells r
theorem tcells_length (l : List It) : (tcells l).length = l.length * 7 := by
  induction l with
  | nil => rfl
  | cons i r ih => simp [tcells, It.cells, ih]; omega
theorem tcells_get (l : List It) (i : Nat) (hi : i < l.length) (j : Nat) (hj : j < 7) : (tcells l)[i * 7 + j]? = (l[i].cells)[j]? := by
  induction l generalizing i with
  | nil => simp at hi
  | cons s r ih =>
    cases i with
    | zero => simp only [tcells, Nat.zero_mul, Nat.zero_add, List.getElem_cons_zero]; rw [List.getElem?_append_left (by simp [It.cells]; omega)]
    | succ i =>
      rw [show (i + 1) * 7 + j = 7 + (i * 7 + j) by omega]
      simp only [tcells, List.getElem_cons_succ]
      rw [List.getElem?_append_right (by simp [It.cells])]
      simp only [It.cells, List.length_cons, List.length_nil]
      rw [show 7 + (i * 7 + j) - (0 + 1 + 1 + 1 + 1 + 1 + 1 + 1) = i * 7 + j by omega]
      exact ih i (by simpa using hi)
theorem item_at {B : Nat} {w : World} {A : Option Addr} {l : List It} (h : Cs B w A (tcells l)) (k : Nat) (hk : k < l.length) :
    ∃ b o, A = some ⟨b, o, none⟩ ∧ b < B ∧ w.cell? ⟨b, o + k * 7, none⟩ = some (.int .i64 l[k].k) ∧ w.cell? ⟨b, o + k * 7 + 1, none⟩ = some (.string l[k].s) ∧ w.cell? ⟨b, o + k * 7 + 2, none⟩ = some (.int .i64 l[k].op) ∧
      w.cell? ⟨b, o + k * 7 + 3, none⟩ = some (.int .i64 l[k].rd) ∧ w.cell? ⟨b, o + k * 7 + 4, none⟩ = some (.int .i64 l[k].a) ∧ w.cell? ⟨b, o + k * 7 + 5, none⟩ = some (.int .i64 l[k].b) ∧ w.cell? ⟨b, o + k * 7 + 6, none⟩ = some (.int .i64 l[k].n) := by
  have hlen := tcells_length l
  have gt : ∀ j, j < 7 → ∃ b o, A = some ⟨b, o, none⟩ ∧ b < B ∧ w.cell? ⟨b, o + (k * 7 + j), none⟩ = (l[k].cells)[j]? := fun j hj => by
    obtain ⟨b, o, e, hb, hx⟩ := h (k * 7 + j) (by omega)
    refine ⟨b, o, e, hb, ?_⟩
    rw [hx, ← tcells_get l k hk j hj, List.getElem?_eq_getElem (by omega)]
  obtain ⟨b, o, rfl, hb, g0⟩ := gt 0 (by omega)
  obtain ⟨_, _, e1, _, g1⟩ := gt 1 (by omega)
  obtain ⟨_, _, e2, _, g2⟩ := gt 2 (by omega)
  obtain ⟨_, _, e3, _, g3⟩ := gt 3 (by omega)
  obtain ⟨_, _, e4, _, g4⟩ := gt 4 (by omega)
  obtain ⟨_, _, e5, _, g5⟩ := gt 5 (by omega)
  obtain ⟨_, _, e6, _, g6⟩ := gt 6 (by omega)
  cases e1; cases e2; cases e3; cases e4; cases e5; cases e6
  exact ⟨b, o, rfl, hb, g0, g1, g2, g3, g4, g5, g6⟩
/-- a program's parts in memory. -/
structure PrAt (w : World) (p : Nat) (TA : Option Addr) (tc : Nat) (text : List It) (DA : Option Addr) (dc : Nat) (data : List It) (at_ dat mb : Nat) (sv : Value) : Prop where
  str : w.heap[p]? = some (.cells #[.slice TA text.length tc, .slice DA data.length dc, .int .u64 (at_ : Int), .int .u64 (dat : Int), .map (some mb), sv] 86 (0, 0))
  tx : Cs w.heap.size w TA (tcells text)
  dt : Cs w.heap.size w DA (tcells data)
  tl : text.length ≤ 1048576
  dl : data.length ≤ 1048576
theorem PrAt.below {w w' : World} {p : Nat} {TA : Option Addr} {tc : Nat} {text : List It} {DA : Option Addr} {dc : Nat} {data : List It} {at_ dat mb : Nat} {sv : Value} (h : PrAt w p TA tc text DA dc data at_ dat mb sv) (hb : Below w.heap.size w w') :
    PrAt w' p TA tc text DA dc data at_ dat mb sv :=
  ⟨(hb.block _ (lt_of_block h.str)).trans h.str, (h.tx.below hb).more hb.size, (h.dt.below hb).more hb.size, h.tl, h.dl⟩
theorem PrAt.cell {w : World} {p : Nat} {TA : Option Addr} {tc : Nat} {text : List It} {DA : Option Addr} {dc : Nat} {data : List It} {at_ dat mb : Nat} {sv : Value} (h : PrAt w p TA tc text DA dc data at_ dat mb sv) (i : Nat) :
    w.cell? ⟨p, i, none⟩ = (#[.slice TA text.length tc, .slice DA data.length dc, .int .u64 (at_ : Int), .int .u64 (dat : Int), .map (some mb), sv] : Array Value)[i]? := Go.Proofs.obj_cell h.str i
end Go.Pat
namespace Go.Proofs
open Go Go.RowKit Go.Pat
theorem Tryz_sizeItem : (Tryz.prog.info? 28).map (·.size) = some 7 := by kernel_rfl
def ItemTo (x : It) (w : World) (e : Ending) (w' : World) : Prop := e = .returned (.agg x.cs) ∧ Below w.heap.size w w'
section
variable (w : World) (p : Nat) (TA : Option Addr) (tc : Nat) (text : List It) (DA : Option Addr) (dc : Nat) (data : List It) (at_ dat mb : Nat) (sv : Value)
set_option maxRecDepth 20000 in
set_option maxHeartbeats 4000000 in
theorem apitem_text (hP : PrAt w p TA tc text DA dc data at_ dat mb sv) (n : Nat) (hn : n < text.length) : Calls Tryz.prog 32 #[.pointer (some ⟨p, 0, none⟩), .int .i64 (n : Int)] w (ItemTo text[n] w) := by
  have hlt := lt_of_block hP.str
  have c0 : w.cell? ⟨p, 0, none⟩ = some (.slice TA text.length tc) := hP.cell 0
  obtain ⟨b, o, rfl, hb, x0, x1, x2, x3, x4, x5, x6⟩ := item_at hP.tx n hn
  have t1 : decide ((n : Int) < (text.length : Int)) = true := decide_eq_true (by omega)
  have htl := hP.tl
  have HV := Lib.hid (show text[n].cs = #[.int .i64 text[n].k, .string text[n].s, .int .i64 text[n].op, .int .i64 text[n].rd, .int .i64 text[n].a, .int .i64 text[n].b, .int .i64 text[n].n] from rfl)
  unfold ItemTo
  generalize text[n].cs = V at *
  generalize text[n].k = v0 at *
  generalize text[n].s = v1 at *
  generalize text[n].op = v2 at *
  generalize text[n].rd = v3 at *
  generalize text[n].a = v4 at *
  generalize text[n].b = v5 at *
  generalize text[n].n = v6 at *
  clear hP
  go_enter Tryz.func32, Tryz.ntmps32
  go_wp2
  refine bodyPost_ret (results_cell_row rfl _ _ w.heap.size 28 #[.int .i64 v0, .string v1, .int .i64 v2, .int .i64 v3, .int .i64 v4, .int .i64 v5, .int .i64 v6] (0, 0) _ rfl (heap_alloc_new w _) Tryz.underlying28 rfl Tryz_sizeItem) rfl ⟨by rw [HV.out], form1 w _⟩
set_option maxRecDepth 20000 in
set_option maxHeartbeats 4000000 in
theorem apitem_data (hP : PrAt w p TA tc text DA dc data at_ dat mb sv) (n : Nat) (hn : text.length ≤ n) (hn2 : n - text.length < data.length) : Calls Tryz.prog 32 #[.pointer (some ⟨p, 0, none⟩), .int .i64 (n : Int)] w (ItemTo (data[n - text.length]) w) := by
  have hlt := lt_of_block hP.str
  have c0 : w.cell? ⟨p, 0, none⟩ = some (.slice TA text.length tc) := hP.cell 0
  have c1 : w.cell? ⟨p, 1, none⟩ = some (.slice DA data.length dc) := hP.cell 1
  obtain ⟨b, o, rfl, hb, x0, x1, x2, x3, x4, x5, x6⟩ := item_at hP.dt (n - text.length) hn2
  have t1 : decide ((n : Int) < (text.length : Int)) = false := decide_eq_false (by omega)
  have htl := hP.tl
  have hdl := hP.dl
  have HV := Lib.hid (show (data[n - text.length]).cs = #[.int .i64 (data[n - text.length]).k, .string (data[n - text.length]).s, .int .i64 (data[n - text.length]).op, .int .i64 (data[n - text.length]).rd, .int .i64 (data[n - text.length]).a, .int .i64 (data[n - text.length]).b, .int .i64 (data[n - text.length]).n] from rfl)
  unfold ItemTo
  generalize (data[n - text.length]).cs = V at *
  generalize (data[n - text.length]).k = v0 at *
  generalize (data[n - text.length]).s = v1 at *
  generalize (data[n - text.length]).op = v2 at *
  generalize (data[n - text.length]).rd = v3 at *
  generalize (data[n - text.length]).a = v4 at *
  generalize (data[n - text.length]).b = v5 at *
  generalize (data[n - text.length]).n = v6 at *
  clear hP
  obtain ⟨m, hm⟩ : ∃ m, n - text.length = m := ⟨_, rfl⟩
  rw [hm] at x0 x1 x2 x3 x4 x5 x6 hn2
  have e1 : IntKind.i64.wrap ((n : Int) - (text.length : Int)) = (m : Int) := by rw [IntKind.wrap_i64]; omega
  have e2 : (n : Int) - (text.length : Int) = (m : Int) := by omega
  clear hm
  go_enter Tryz.func32, Tryz.ntmps32
  go_wp2
  go_region
  all_goals go_wp2
  all_goals refine bodyPost_ret (results_cell_row rfl _ _ w.heap.size 28 #[.int .i64 v0, .string v1, .int .i64 v2, .int .i64 v3, .int .i64 v4, .int .i64 v5, .int .i64 v6] (0, 0) _ rfl (heap_alloc_new w _) Tryz.underlying28 rfl Tryz_sizeItem) rfl ⟨by rw [HV.out], (form1 w _).drew⟩
theorem apitem_any (hP : PrAt w p TA tc text DA dc data at_ dat mb sv) (n : Nat) (hn : n < (text ++ data).length) : Calls Tryz.prog 32 #[.pointer (some ⟨p, 0, none⟩), .int .i64 (n : Int)] w (ItemTo ((text ++ data)[n]) w) := by
  by_cases h : n < text.length
  · rw [List.getElem_append_left h]
    exact apitem_text w p TA tc text DA dc data at_ dat mb sv hP n h
  · rw [List.getElem_append_right (by omega)]
    exact apitem_data w p TA tc text DA dc data at_ dat mb sv hP n (by omega) (by rw [List.length_append] at hn; omega)
end
end Go.Proofs

/- A map from names to addresses, of the call's own. -/
namespace Go.Proofs
open Go Go.RowKit Go.Pat Go.Maps Go.WideShapes
theorem Tryz_law_s : Keyed Tryz.prog 9 := string_keyed Tryz.underlying9
theorem Tryz_und_smap : Tryz.prog.underlying 84 = some (.map 9 32) := by kernel_rfl
theorem Tryz_zero_u64 (w : World) : (zeroValue 32).run Tryz.prog w = .ok (.int .u64 0) w := by kernel_rfl
/-- a block is a map of at most n names: F tells each name's address. -/
def SMap (w : World) (b n : Nat) (F : List UInt8 → Option Nat) : Prop :=
  ∃ D : DataW Unit, w.ownsMap Tryz.prog 9 (plainElem Tryz.prog 32) b n D ∧ IsMap D ∧ ∀ l, has D (.string l) = (F l).isSome ∧ D.atKey (.string l) (.lit (.int .u64 0)) = .lit (.int .u64 (((F l).getD 0 : Nat) : Int))
theorem SMap.made (w : World) : SMap (w.alloc (.map #[] 0)) w.heap.size 0 (fun _ => none) :=
  ⟨.map [], World.ownsMap_made _ _ _ _, isMap_empty, fun _ => ⟨rfl, rfl⟩⟩
theorem SMap.lt {w : World} {b n : Nat} {F : List UInt8 → Option Nat} (h : SMap w b n F) : b < w.heap.size := by
  obtain ⟨D, hD, _⟩ := h
  exact hD.lt
theorem SMap.keep {w w' : World} {b n : Nat} {F : List UInt8 → Option Nat} (h : SMap w b n F) (hk : w'.heap[b]? = w.heap[b]?) : SMap w' b n F := by
  obtain ⟨D, ⟨es, clock, hb, r⟩, h2⟩ := h
  exact ⟨D, ⟨es, clock, hk.trans hb, r⟩, h2⟩
theorem SMap.below {w w' : World} {b n : Nat} {F : List UInt8 → Option Nat} (h : SMap w b n F) (hb : Below w.heap.size w w') : SMap w' b n F := h.keep (hb.block _ h.lt)
theorem SMap.look {w : World} {b n : Nat} {F : List UInt8 → Option Nat} (h : SMap w b n F) (s : ByteArray) (hs : s.size ≤ maxLen) :
    (Instr.lookup 84 (.map (some b)) (.string s) false).run Tryz.prog w = .ok (.int .u64 (((F s.data.toList).getD 0 : Nat) : Int)) w := by
  obtain ⟨D, hD, _, hF⟩ := h
  obtain ⟨c, hrun, hat, _⟩ := hD.lookup_int Tryz_law_s Tryz_und_smap Tryz.underlying32 (Tryz_zero_u64 w) (Go.WideMaps.keyOf_string_mk Tryz.underlying9 hs)
  rw [(hF s.data.toList).2] at hat
  simp only [DataW.lit.injEq, Lit.int.injEq, true_and] at hat
  rw [hrun, ← hat]
theorem SMap.lookOk {w : World} {b n : Nat} {F : List UInt8 → Option Nat} (h : SMap w b n F) (s : ByteArray) (hs : s.size ≤ maxLen) :
    (Instr.lookup 84 (.map (some b)) (.string s) true).run Tryz.prog w = .ok (.tuple #[.int .u64 (((F s.data.toList).getD 0 : Nat) : Int), .bool (F s.data.toList).isSome]) w := by
  obtain ⟨D, hD, _, hF⟩ := h
  obtain ⟨v, ps, hrun, hv⟩ := hD.look_ok Tryz_law_s Tryz_und_smap (Tryz_zero_u64 w) (plainElem_int Tryz.underlying32 (by decide)) (Go.WideMaps.keyOf_string_mk Tryz.underlying9 hs)
  obtain ⟨c, rfl, hc, hwc⟩ := plainElem_int_inv Tryz.underlying32 hv
  have hat := congrArg Prod.fst hc
  simp only at hat
  rw [(hF s.data.toList).2] at hat
  simp only [DataW.lit.injEq, Lit.int.injEq, true_and] at hat
  rw [hrun, ← hat, (hF s.data.toList).1]
theorem SMap.put {w : World} {b n : Nat} {F : List UInt8 → Option Nat} (h : SMap w b n F) (hn : n < maxLen) (s : ByteArray) (hs : s.size ≤ maxLen) (v : Nat) (hv : v < 18446744073709551616) :
    ∃ w', (Instr.mapUpdate 84 (.map (some b)) (.string s) (.int .u64 (v : Int))).run Tryz.prog w = .ok () w' ∧ SMap w' b (n + 1) (fun l => if l = s.data.toList then some v else F l) ∧ w.grownBy w' (some b) := by
  obtain ⟨D, hD, hM, hF⟩ := h
  have hwf : (Lit.int .u64 (v : Int)).wf = true := WalkArith.wf_u64 ⟨by omega, by omega⟩
  obtain ⟨w', hrun, hown, hg⟩ := hD.update Tryz_law_s Tryz_und_smap hn (Go.WideMaps.keyOf_string_mk Tryz.underlying9 hs) (plainElem_int Tryz.underlying32 hwf)
  refine ⟨w', hrun, ⟨_, hown, hM.put _ _, fun l => ?_⟩, hg⟩
  by_cases hl : l = s.data.toList
  · subst hl
    simp only [if_true]
    exact ⟨has_put_same hM (by simp [WideAt.IsKeyLit]) _, atKey_put_same hM (by simp [WideAt.IsKeyLit]) _ _⟩
  · have hne : (Lit.string l) ≠ Lit.string s.data.toList := fun e => hl (Lit.string.inj e)
    simp only [if_neg hl]
    rw [has_put_other hne, atKey_put_other hne]
    exact hF l
end Go.Proofs
