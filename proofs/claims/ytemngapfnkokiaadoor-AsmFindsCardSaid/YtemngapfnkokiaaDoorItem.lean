/- patina/asm.named, only, item: what is wrong with an item. -/
import Derived.Test.YtemngapfnkokiaaDoorRvc
import Derived.Test.YtemngapfnkokiaaDoorInsL
import Derived.Test.YtemngapfnkokiaaDoorFormP
import Derived.BigQuiet
import Derived.Lib.Strings
import Derived.Deep.QuietTactic
namespace Go.Pat
open Go Go.RowKit
/-- an item. -/
structure It where
  k : Int
  s : ByteArray
  op : Int
  rd : Int
  a : Int
  b : Int
  n : Int
deriving DecidableEq
def It.cs (x : It) : Array Value := #[.int .i64 x.k, .string x.s, .int .i64 x.op, .int .i64 x.rd, .int .i64 x.a, .int .i64 x.b, .int .i64 x.n]
def namedB (s : ByteArray) : Bool := decide (1 ≤ s.size) && decide (s.size ≤ 128)
def inB2 (n lo hi : Int) : Bool := decide (lo ≤ n) && decide (n ≤ hi)
def no : ByteArray := ⟨#[]⟩
/-- has an item no fields but its kind and those given? -/
def onlyB (s : ByteArray) (op rd a b n : Int) (s2 : ByteArray) (op2 rd2 a2 b2 n2 : Int) : Bool :=
  decide (s = s2 ∧ op = op2 ∧ rd = rd2 ∧ a = a2 ∧ b = b2 ∧ n = n2)
end Go.Pat
namespace Go.Proofs
open Go Go.RowKit Go.Pat
theorem toList_inj {s t : ByteArray} (h : s.toList = t.toList) : s = t := by
  rw [Lib.toList_data, Lib.toList_data] at h
  exact ByteArray.ext (Array.toList_inj.1 h)
theorem aitem1_any (n lo hi : Int) (w : World) : Calls Tryd.prog 103 #[.int .i64 n, .int .i64 lo, .int .i64 hi] w fun e w' => e = .returned (.bool (inB2 n lo hi)) ∧ w' = w := by
  unfold inB2
  cases t1 : decide (lo ≤ n)
  · go_enter Tryd.func103, Tryd.ntmps103
    go_wp2
    go_ret
    exact ⟨rfl, rfl⟩
  · cases t2 : decide (n ≤ hi)
    all_goals
      go_enter Tryd.func103, Tryd.ntmps103
      go_wp2
      go_ret
      exact ⟨rfl, rfl⟩
theorem anamed_any (s : ByteArray) (hs : s.size ≤ maxLen) (w : World) : Calls Tryd.prog 104 #[.string s] w fun e w' => e = .returned (.bool (namedB s)) ∧ w' = w := by
  unfold namedB
  unfold maxLen at hs
  cases t1 : decide (1 ≤ s.size)
  · have t1' : decide ((1 : Int) ≤ (s.size : Int)) = false := decide_eq_false (by have := of_decide_eq_false t1; omega)
    go_enter Tryd.func104, Tryd.ntmps104
    go_wp2
    go_ret
    exact ⟨rfl, rfl⟩
  · have t1' : decide ((1 : Int) ≤ (s.size : Int)) = true := decide_eq_true (by have := of_decide_eq_true t1; omega)
    cases t2 : decide (s.size ≤ 128)
    · have t2' : decide ((s.size : Int) ≤ (128 : Int)) = false := decide_eq_false (by have := of_decide_eq_false t2; omega)
      go_enter Tryd.func104, Tryd.ntmps104
      go_wp2
      go_ret
      exact ⟨rfl, rfl⟩
    · have t2' : decide ((s.size : Int) ≤ (128 : Int)) = true := decide_eq_true (by have := of_decide_eq_true t2; omega)
      go_enter Tryd.func104, Tryd.ntmps104
      go_wp2
      go_ret
      exact ⟨rfl, rfl⟩
def OnlyTo (v : Bool) (w : World) (e : Ending) (w' : World) : Prop := e = .returned (.bool v) ∧ Below w.heap.size w w'
set_option maxHeartbeats 1000000 in
theorem aonly_any (k k2 op rd a b n op2 rd2 a2 b2 n2 : Int) (s s2 : ByteArray) (w : World) :
    Calls Tryd.prog 105 #[.agg #[.int .i64 k, .string s, .int .i64 op, .int .i64 rd, .int .i64 a, .int .i64 b, .int .i64 n], .agg #[.int .i64 k2, .string s2, .int .i64 op2, .int .i64 rd2, .int .i64 a2, .int .i64 b2, .int .i64 n2]] w
      (OnlyTo (onlyB s op rd a b n s2 op2 rd2 a2 b2 n2) w) := by
  go_enter Tryd.func105, Tryd.ntmps105
  go_wp2
  all_goals
    go_ret
    refine ⟨congrArg (fun z => Ending.returned (Value.bool z)) ?_, form2 w _ _⟩
    unfold onlyB
    first
      | (symm; rw [decide_eq_true_eq]; refine ⟨toList_inj (by assumption), ?_⟩; refine ⟨?_, ?_, ?_, ?_, ?_⟩ <;> first | assumption | omega)
      | (symm; rw [decide_eq_false_iff_not]; rintro ⟨rfl, rfl, rfl, rfl, rfl, rfl⟩; simp_all)
/-- what is wrong with an item. -/
def okI (x : It) (data : Bool) : Bool :=
  if x.k = 1 then namedB x.s && onlyB x.s x.op x.rd x.a x.b x.n x.s 0 0 0 0 0
  else if x.k = 2 then (x.s.toList == []) && !data
  else if x.k = 3 then ((!data) && inB2 x.rd 0 31) && onlyB x.s x.op x.rd x.a x.b x.n no 0 x.rd 0 0 x.n
  else if x.k = 4 ∨ x.k = 6 then (((!data) && inB2 x.rd 1 31) && namedB x.s) && onlyB x.s x.op x.rd x.a x.b x.n x.s 0 x.rd 0 0 0
  else if x.k = 5 then ((!data) && namedB x.s) && onlyB x.s x.op x.rd x.a x.b x.n x.s 0 0 0 0 0
  else if x.k = 7 then (((((!data) && namedB x.s) && inB2 x.op 5 10) && inB2 x.a 0 31) && inB2 x.b 0 31) && onlyB x.s x.op x.rd x.a x.b x.n x.s x.op 0 x.a x.b 0
  else if x.k = 8 then onlyB x.s x.op x.rd x.a x.b x.n no 0 0 0 0 x.n
  else if x.k = 9 then ((decide (0 ≤ x.n) && decide (x.n ≤ 1048576)) && (data || (x.n.tmod 4 == 0))) && onlyB x.s x.op x.rd x.a x.b x.n no 0 0 0 0 x.n
  else false
def itemE (x : It) (data : Bool) : Int :=
  if x.k = 2 ∧ data = false ∧ rightI x.op x.rd x.a x.b x.n = false then 11 else if okI x data then 0 else 1
def ErrTo (v : Int) (w : World) (e : Ending) (w' : World) : Prop := e = .returned (.int .i64 v) ∧ Below w.heap.size w w'
set_option maxRecDepth 20000 in
set_option maxHeartbeats 4000000 in
theorem aitem_1_t (op rd a b n : Int) (s : ByteArray) (hs : s.size ≤ maxLen) (w : World) : Calls Tryd.prog 73 #[.agg #[.int .i64 1, .string s, .int .i64 op, .int .i64 rd, .int .i64 a, .int .i64 b, .int .i64 n], .bool false] w (ErrTo (itemE ⟨1, s, op, rd, a, b, n⟩ false) w) := by
  obtain ⟨v, hv⟩ : ∃ v, v = itemE ⟨1, s, op, rd, a, b, n⟩ false := ⟨_, rfl⟩
  rw [← hv]
  have hv2 : v = if (namedB s) && onlyB s op rd a b n s 0 0 0 0 0 then 0 else 1 := hv
  have HV := Lib.hid hv2
  clear hv hv2
  have HO := Lib.hid (fun W => aonly_any 1 0 op rd a b n 0 0 0 0 0 s s W)
  generalize onlyB s op rd a b n s 0 0 0 0 0 = to at *
  unfold OnlyTo at HO
  have HN := Lib.hid (fun W => anamed_any s hs W)
  generalize namedB s = tn at *
  clear hs
  cases q0 : tn
  · go_enter Tryd.func73, Tryd.ntmps73
    go_wp2_with (first | (go_at_call 105; (with_reducible refine (HO.out _).mono ?_); rintro e w2 ⟨rfl, hB2⟩) | (go_at_call 104; (with_reducible refine (HN.out _).mono ?_); rintro e w' ⟨rfl, rfl⟩))
    go_ret
    exact ⟨by rw [HV.out]; simp [q0], form1 w _⟩
  · cases q1 : to
    · go_enter Tryd.func73, Tryd.ntmps73
      go_wp2_with (first | (go_at_call 105; (with_reducible refine (HO.out _).mono ?_); rintro e w2 ⟨rfl, hB2⟩) | (go_at_call 104; (with_reducible refine (HN.out _).mono ?_); rintro e w' ⟨rfl, rfl⟩))
      go_ret
      exact ⟨by rw [HV.out]; simp [q0, q1], (form1 w _).trans (hB2.mono (form1 w _).size)⟩
    · go_enter Tryd.func73, Tryd.ntmps73
      go_wp2_with (first | (go_at_call 105; (with_reducible refine (HO.out _).mono ?_); rintro e w2 ⟨rfl, hB2⟩) | (go_at_call 104; (with_reducible refine (HN.out _).mono ?_); rintro e w' ⟨rfl, rfl⟩))
      go_ret
      exact ⟨by rw [HV.out]; simp [q0, q1], (form1 w _).trans (hB2.mono (form1 w _).size)⟩
set_option maxRecDepth 20000 in
set_option maxHeartbeats 4000000 in
theorem aitem_3_t (op rd a b n : Int) (s : ByteArray) (_hs : s.size ≤ maxLen) (w : World) : Calls Tryd.prog 73 #[.agg #[.int .i64 3, .string s, .int .i64 op, .int .i64 rd, .int .i64 a, .int .i64 b, .int .i64 n], .bool false] w (ErrTo (itemE ⟨3, s, op, rd, a, b, n⟩ false) w) := by
  obtain ⟨v, hv⟩ : ∃ v, v = itemE ⟨3, s, op, rd, a, b, n⟩ false := ⟨_, rfl⟩
  rw [← hv]
  have hv2 : v = if (inB2 rd 0 31) && onlyB s op rd a b n no 0 rd 0 0 n then 0 else 1 := hv
  have HV := Lib.hid hv2
  clear hv hv2
  have HO := Lib.hid (fun W => aonly_any 3 0 op rd a b n 0 rd 0 0 n s no W)
  generalize onlyB s op rd a b n no 0 rd 0 0 n = to at *
  unfold OnlyTo at HO
  unfold no at HO
  have HI0 := Lib.hid (fun W => aitem1_any rd 0 31 W)
  generalize inB2 rd 0 31 = ti0 at *
  clear _hs
  cases q0 : ti0
  · go_enter Tryd.func73, Tryd.ntmps73
    go_wp2_with (first | (go_at_call 105; (with_reducible refine (HO.out _).mono ?_); rintro e w2 ⟨rfl, hB2⟩) | (go_at_call 103; (with_reducible refine (HI0.out _).mono ?_); rintro e w' ⟨rfl, rfl⟩))
    go_ret
    exact ⟨by rw [HV.out]; simp [q0], form1 w _⟩
  · cases q1 : to
    · go_enter Tryd.func73, Tryd.ntmps73
      go_wp2_with (first | (go_at_call 105; (with_reducible refine (HO.out _).mono ?_); rintro e w2 ⟨rfl, hB2⟩) | (go_at_call 103; (with_reducible refine (HI0.out _).mono ?_); rintro e w' ⟨rfl, rfl⟩))
      go_ret
      exact ⟨by rw [HV.out]; simp [q0, q1], (form1 w _).trans (hB2.mono (form1 w _).size)⟩
    · go_enter Tryd.func73, Tryd.ntmps73
      go_wp2_with (first | (go_at_call 105; (with_reducible refine (HO.out _).mono ?_); rintro e w2 ⟨rfl, hB2⟩) | (go_at_call 103; (with_reducible refine (HI0.out _).mono ?_); rintro e w' ⟨rfl, rfl⟩))
      go_ret
      exact ⟨by rw [HV.out]; simp [q0, q1], (form1 w _).trans (hB2.mono (form1 w _).size)⟩
set_option maxRecDepth 20000 in
set_option maxHeartbeats 4000000 in
theorem aitem_4_t (op rd a b n : Int) (s : ByteArray) (hs : s.size ≤ maxLen) (w : World) : Calls Tryd.prog 73 #[.agg #[.int .i64 4, .string s, .int .i64 op, .int .i64 rd, .int .i64 a, .int .i64 b, .int .i64 n], .bool false] w (ErrTo (itemE ⟨4, s, op, rd, a, b, n⟩ false) w) := by
  obtain ⟨v, hv⟩ : ∃ v, v = itemE ⟨4, s, op, rd, a, b, n⟩ false := ⟨_, rfl⟩
  rw [← hv]
  have hv2 : v = if ((inB2 rd 1 31) && namedB s) && onlyB s op rd a b n s 0 rd 0 0 0 then 0 else 1 := hv
  have HV := Lib.hid hv2
  clear hv hv2
  have HO := Lib.hid (fun W => aonly_any 4 0 op rd a b n 0 rd 0 0 0 s s W)
  generalize onlyB s op rd a b n s 0 rd 0 0 0 = to at *
  unfold OnlyTo at HO
  have HN := Lib.hid (fun W => anamed_any s hs W)
  generalize namedB s = tn at *
  have HI0 := Lib.hid (fun W => aitem1_any rd 1 31 W)
  generalize inB2 rd 1 31 = ti0 at *
  clear hs
  cases q0 : ti0
  · go_enter Tryd.func73, Tryd.ntmps73
    go_wp2_with (first | (go_at_call 105; (with_reducible refine (HO.out _).mono ?_); rintro e w2 ⟨rfl, hB2⟩) | (go_at_call 104; (with_reducible refine (HN.out _).mono ?_); rintro e w' ⟨rfl, rfl⟩) | (go_at_call 103; (with_reducible refine (HI0.out _).mono ?_); rintro e w' ⟨rfl, rfl⟩))
    go_ret
    exact ⟨by rw [HV.out]; simp [q0], form1 w _⟩
  · cases q1 : tn
    · go_enter Tryd.func73, Tryd.ntmps73
      go_wp2_with (first | (go_at_call 105; (with_reducible refine (HO.out _).mono ?_); rintro e w2 ⟨rfl, hB2⟩) | (go_at_call 104; (with_reducible refine (HN.out _).mono ?_); rintro e w' ⟨rfl, rfl⟩) | (go_at_call 103; (with_reducible refine (HI0.out _).mono ?_); rintro e w' ⟨rfl, rfl⟩))
      go_ret
      exact ⟨by rw [HV.out]; simp [q0, q1], form1 w _⟩
    · cases q2 : to
      · go_enter Tryd.func73, Tryd.ntmps73
        go_wp2_with (first | (go_at_call 105; (with_reducible refine (HO.out _).mono ?_); rintro e w2 ⟨rfl, hB2⟩) | (go_at_call 104; (with_reducible refine (HN.out _).mono ?_); rintro e w' ⟨rfl, rfl⟩) | (go_at_call 103; (with_reducible refine (HI0.out _).mono ?_); rintro e w' ⟨rfl, rfl⟩))
        go_ret
        exact ⟨by rw [HV.out]; simp [q0, q1, q2], (form1 w _).trans (hB2.mono (form1 w _).size)⟩
      · go_enter Tryd.func73, Tryd.ntmps73
        go_wp2_with (first | (go_at_call 105; (with_reducible refine (HO.out _).mono ?_); rintro e w2 ⟨rfl, hB2⟩) | (go_at_call 104; (with_reducible refine (HN.out _).mono ?_); rintro e w' ⟨rfl, rfl⟩) | (go_at_call 103; (with_reducible refine (HI0.out _).mono ?_); rintro e w' ⟨rfl, rfl⟩))
        go_ret
        exact ⟨by rw [HV.out]; simp [q0, q1, q2], (form1 w _).trans (hB2.mono (form1 w _).size)⟩
set_option maxRecDepth 20000 in
set_option maxHeartbeats 4000000 in
theorem aitem_6_t (op rd a b n : Int) (s : ByteArray) (hs : s.size ≤ maxLen) (w : World) : Calls Tryd.prog 73 #[.agg #[.int .i64 6, .string s, .int .i64 op, .int .i64 rd, .int .i64 a, .int .i64 b, .int .i64 n], .bool false] w (ErrTo (itemE ⟨6, s, op, rd, a, b, n⟩ false) w) := by
  obtain ⟨v, hv⟩ : ∃ v, v = itemE ⟨6, s, op, rd, a, b, n⟩ false := ⟨_, rfl⟩
  rw [← hv]
  have hv2 : v = if ((inB2 rd 1 31) && namedB s) && onlyB s op rd a b n s 0 rd 0 0 0 then 0 else 1 := hv
  have HV := Lib.hid hv2
  clear hv hv2
  have HO := Lib.hid (fun W => aonly_any 6 0 op rd a b n 0 rd 0 0 0 s s W)
  generalize onlyB s op rd a b n s 0 rd 0 0 0 = to at *
  unfold OnlyTo at HO
  have HN := Lib.hid (fun W => anamed_any s hs W)
  generalize namedB s = tn at *
  have HI0 := Lib.hid (fun W => aitem1_any rd 1 31 W)
  generalize inB2 rd 1 31 = ti0 at *
  clear hs
  cases q0 : ti0
  · go_enter Tryd.func73, Tryd.ntmps73
    go_wp2_with (first | (go_at_call 105; (with_reducible refine (HO.out _).mono ?_); rintro e w2 ⟨rfl, hB2⟩) | (go_at_call 104; (with_reducible refine (HN.out _).mono ?_); rintro e w' ⟨rfl, rfl⟩) | (go_at_call 103; (with_reducible refine (HI0.out _).mono ?_); rintro e w' ⟨rfl, rfl⟩))
    go_ret
    exact ⟨by rw [HV.out]; simp [q0], form1 w _⟩
  · cases q1 : tn
    · go_enter Tryd.func73, Tryd.ntmps73
      go_wp2_with (first | (go_at_call 105; (with_reducible refine (HO.out _).mono ?_); rintro e w2 ⟨rfl, hB2⟩) | (go_at_call 104; (with_reducible refine (HN.out _).mono ?_); rintro e w' ⟨rfl, rfl⟩) | (go_at_call 103; (with_reducible refine (HI0.out _).mono ?_); rintro e w' ⟨rfl, rfl⟩))
      go_ret
      exact ⟨by rw [HV.out]; simp [q0, q1], form1 w _⟩
    · cases q2 : to
      · go_enter Tryd.func73, Tryd.ntmps73
        go_wp2_with (first | (go_at_call 105; (with_reducible refine (HO.out _).mono ?_); rintro e w2 ⟨rfl, hB2⟩) | (go_at_call 104; (with_reducible refine (HN.out _).mono ?_); rintro e w' ⟨rfl, rfl⟩) | (go_at_call 103; (with_reducible refine (HI0.out _).mono ?_); rintro e w' ⟨rfl, rfl⟩))
        go_ret
        exact ⟨by rw [HV.out]; simp [q0, q1, q2], (form1 w _).trans (hB2.mono (form1 w _).size)⟩
      · go_enter Tryd.func73, Tryd.ntmps73
        go_wp2_with (first | (go_at_call 105; (with_reducible refine (HO.out _).mono ?_); rintro e w2 ⟨rfl, hB2⟩) | (go_at_call 104; (with_reducible refine (HN.out _).mono ?_); rintro e w' ⟨rfl, rfl⟩) | (go_at_call 103; (with_reducible refine (HI0.out _).mono ?_); rintro e w' ⟨rfl, rfl⟩))
        go_ret
        exact ⟨by rw [HV.out]; simp [q0, q1, q2], (form1 w _).trans (hB2.mono (form1 w _).size)⟩
set_option maxRecDepth 20000 in
set_option maxHeartbeats 4000000 in
theorem aitem_5_t (op rd a b n : Int) (s : ByteArray) (hs : s.size ≤ maxLen) (w : World) : Calls Tryd.prog 73 #[.agg #[.int .i64 5, .string s, .int .i64 op, .int .i64 rd, .int .i64 a, .int .i64 b, .int .i64 n], .bool false] w (ErrTo (itemE ⟨5, s, op, rd, a, b, n⟩ false) w) := by
  obtain ⟨v, hv⟩ : ∃ v, v = itemE ⟨5, s, op, rd, a, b, n⟩ false := ⟨_, rfl⟩
  rw [← hv]
  have hv2 : v = if (namedB s) && onlyB s op rd a b n s 0 0 0 0 0 then 0 else 1 := hv
  have HV := Lib.hid hv2
  clear hv hv2
  have HO := Lib.hid (fun W => aonly_any 5 0 op rd a b n 0 0 0 0 0 s s W)
  generalize onlyB s op rd a b n s 0 0 0 0 0 = to at *
  unfold OnlyTo at HO
  have HN := Lib.hid (fun W => anamed_any s hs W)
  generalize namedB s = tn at *
  clear hs
  cases q0 : tn
  · go_enter Tryd.func73, Tryd.ntmps73
    go_wp2_with (first | (go_at_call 105; (with_reducible refine (HO.out _).mono ?_); rintro e w2 ⟨rfl, hB2⟩) | (go_at_call 104; (with_reducible refine (HN.out _).mono ?_); rintro e w' ⟨rfl, rfl⟩))
    go_ret
    exact ⟨by rw [HV.out]; simp [q0], form1 w _⟩
  · cases q1 : to
    · go_enter Tryd.func73, Tryd.ntmps73
      go_wp2_with (first | (go_at_call 105; (with_reducible refine (HO.out _).mono ?_); rintro e w2 ⟨rfl, hB2⟩) | (go_at_call 104; (with_reducible refine (HN.out _).mono ?_); rintro e w' ⟨rfl, rfl⟩))
      go_ret
      exact ⟨by rw [HV.out]; simp [q0, q1], (form1 w _).trans (hB2.mono (form1 w _).size)⟩
    · go_enter Tryd.func73, Tryd.ntmps73
      go_wp2_with (first | (go_at_call 105; (with_reducible refine (HO.out _).mono ?_); rintro e w2 ⟨rfl, hB2⟩) | (go_at_call 104; (with_reducible refine (HN.out _).mono ?_); rintro e w' ⟨rfl, rfl⟩))
      go_ret
      exact ⟨by rw [HV.out]; simp [q0, q1], (form1 w _).trans (hB2.mono (form1 w _).size)⟩
set_option maxRecDepth 20000 in
set_option maxHeartbeats 4000000 in
theorem aitem_7_t (op rd a b n : Int) (s : ByteArray) (hs : s.size ≤ maxLen) (w : World) : Calls Tryd.prog 73 #[.agg #[.int .i64 7, .string s, .int .i64 op, .int .i64 rd, .int .i64 a, .int .i64 b, .int .i64 n], .bool false] w (ErrTo (itemE ⟨7, s, op, rd, a, b, n⟩ false) w) := by
  obtain ⟨v, hv⟩ : ∃ v, v = itemE ⟨7, s, op, rd, a, b, n⟩ false := ⟨_, rfl⟩
  rw [← hv]
  have hv2 : v = if ((((namedB s) && inB2 op 5 10) && inB2 a 0 31) && inB2 b 0 31) && onlyB s op rd a b n s op 0 a b 0 then 0 else 1 := hv
  have HV := Lib.hid hv2
  clear hv hv2
  have HO := Lib.hid (fun W => aonly_any 7 0 op rd a b n op 0 a b 0 s s W)
  generalize onlyB s op rd a b n s op 0 a b 0 = to at *
  unfold OnlyTo at HO
  have HN := Lib.hid (fun W => anamed_any s hs W)
  generalize namedB s = tn at *
  have HI1 := Lib.hid (fun W => aitem1_any op 5 10 W)
  generalize inB2 op 5 10 = ti1 at *
  have HI2 := Lib.hid (fun W => aitem1_any a 0 31 W)
  generalize inB2 a 0 31 = ti2 at *
  have HI3 := Lib.hid (fun W => aitem1_any b 0 31 W)
  generalize inB2 b 0 31 = ti3 at *
  clear hs
  cases q0 : tn
  · go_enter Tryd.func73, Tryd.ntmps73
    go_wp2_with (first | (go_at_call 105; (with_reducible refine (HO.out _).mono ?_); rintro e w2 ⟨rfl, hB2⟩) | (go_at_call 104; (with_reducible refine (HN.out _).mono ?_); rintro e w' ⟨rfl, rfl⟩) | (go_at_call 103; (with_reducible refine (HI1.out _).mono ?_); rintro e w' ⟨rfl, rfl⟩) | (go_at_call 103; (with_reducible refine (HI2.out _).mono ?_); rintro e w' ⟨rfl, rfl⟩) | (go_at_call 103; (with_reducible refine (HI3.out _).mono ?_); rintro e w' ⟨rfl, rfl⟩))
    go_ret
    exact ⟨by rw [HV.out]; simp [q0], form1 w _⟩
  · cases q1 : ti1
    · go_enter Tryd.func73, Tryd.ntmps73
      go_wp2_with (first | (go_at_call 105; (with_reducible refine (HO.out _).mono ?_); rintro e w2 ⟨rfl, hB2⟩) | (go_at_call 104; (with_reducible refine (HN.out _).mono ?_); rintro e w' ⟨rfl, rfl⟩) | (go_at_call 103; (with_reducible refine (HI1.out _).mono ?_); rintro e w' ⟨rfl, rfl⟩) | (go_at_call 103; (with_reducible refine (HI2.out _).mono ?_); rintro e w' ⟨rfl, rfl⟩) | (go_at_call 103; (with_reducible refine (HI3.out _).mono ?_); rintro e w' ⟨rfl, rfl⟩))
      go_ret
      exact ⟨by rw [HV.out]; simp [q0, q1], form1 w _⟩
    · cases q2 : ti2
      · go_enter Tryd.func73, Tryd.ntmps73
        go_wp2_with (first | (go_at_call 105; (with_reducible refine (HO.out _).mono ?_); rintro e w2 ⟨rfl, hB2⟩) | (go_at_call 104; (with_reducible refine (HN.out _).mono ?_); rintro e w' ⟨rfl, rfl⟩) | (go_at_call 103; (with_reducible refine (HI1.out _).mono ?_); rintro e w' ⟨rfl, rfl⟩) | (go_at_call 103; (with_reducible refine (HI2.out _).mono ?_); rintro e w' ⟨rfl, rfl⟩) | (go_at_call 103; (with_reducible refine (HI3.out _).mono ?_); rintro e w' ⟨rfl, rfl⟩))
        go_ret
        exact ⟨by rw [HV.out]; simp [q0, q1, q2], form1 w _⟩
      · cases q3 : ti3
        · go_enter Tryd.func73, Tryd.ntmps73
          go_wp2_with (first | (go_at_call 105; (with_reducible refine (HO.out _).mono ?_); rintro e w2 ⟨rfl, hB2⟩) | (go_at_call 104; (with_reducible refine (HN.out _).mono ?_); rintro e w' ⟨rfl, rfl⟩) | (go_at_call 103; (with_reducible refine (HI1.out _).mono ?_); rintro e w' ⟨rfl, rfl⟩) | (go_at_call 103; (with_reducible refine (HI2.out _).mono ?_); rintro e w' ⟨rfl, rfl⟩) | (go_at_call 103; (with_reducible refine (HI3.out _).mono ?_); rintro e w' ⟨rfl, rfl⟩))
          go_ret
          exact ⟨by rw [HV.out]; simp [q0, q1, q2, q3], form1 w _⟩
        · cases q4 : to
          · go_enter Tryd.func73, Tryd.ntmps73
            go_wp2_with (first | (go_at_call 105; (with_reducible refine (HO.out _).mono ?_); rintro e w2 ⟨rfl, hB2⟩) | (go_at_call 104; (with_reducible refine (HN.out _).mono ?_); rintro e w' ⟨rfl, rfl⟩) | (go_at_call 103; (with_reducible refine (HI1.out _).mono ?_); rintro e w' ⟨rfl, rfl⟩) | (go_at_call 103; (with_reducible refine (HI2.out _).mono ?_); rintro e w' ⟨rfl, rfl⟩) | (go_at_call 103; (with_reducible refine (HI3.out _).mono ?_); rintro e w' ⟨rfl, rfl⟩))
            go_ret
            exact ⟨by rw [HV.out]; simp [q0, q1, q2, q3, q4], (form1 w _).trans (hB2.mono (form1 w _).size)⟩
          · go_enter Tryd.func73, Tryd.ntmps73
            go_wp2_with (first | (go_at_call 105; (with_reducible refine (HO.out _).mono ?_); rintro e w2 ⟨rfl, hB2⟩) | (go_at_call 104; (with_reducible refine (HN.out _).mono ?_); rintro e w' ⟨rfl, rfl⟩) | (go_at_call 103; (with_reducible refine (HI1.out _).mono ?_); rintro e w' ⟨rfl, rfl⟩) | (go_at_call 103; (with_reducible refine (HI2.out _).mono ?_); rintro e w' ⟨rfl, rfl⟩) | (go_at_call 103; (with_reducible refine (HI3.out _).mono ?_); rintro e w' ⟨rfl, rfl⟩))
            go_ret
            exact ⟨by rw [HV.out]; simp [q0, q1, q2, q3, q4], (form1 w _).trans (hB2.mono (form1 w _).size)⟩
set_option maxRecDepth 20000 in
set_option maxHeartbeats 4000000 in
theorem aitem_8_t (op rd a b n : Int) (s : ByteArray) (_hs : s.size ≤ maxLen) (w : World) : Calls Tryd.prog 73 #[.agg #[.int .i64 8, .string s, .int .i64 op, .int .i64 rd, .int .i64 a, .int .i64 b, .int .i64 n], .bool false] w (ErrTo (itemE ⟨8, s, op, rd, a, b, n⟩ false) w) := by
  obtain ⟨v, hv⟩ : ∃ v, v = itemE ⟨8, s, op, rd, a, b, n⟩ false := ⟨_, rfl⟩
  rw [← hv]
  have hv2 : v = if onlyB s op rd a b n no 0 0 0 0 n then 0 else 1 := hv
  have HV := Lib.hid hv2
  clear hv hv2
  have HO := Lib.hid (fun W => aonly_any 8 0 op rd a b n 0 0 0 0 n s no W)
  generalize onlyB s op rd a b n no 0 0 0 0 n = to at *
  unfold OnlyTo at HO
  unfold no at HO
  clear _hs
  cases q0 : to
  · go_enter Tryd.func73, Tryd.ntmps73
    go_wp2_with (first | (go_at_call 105; (with_reducible refine (HO.out _).mono ?_); rintro e w2 ⟨rfl, hB2⟩))
    go_ret
    exact ⟨by rw [HV.out]; simp [q0], (form1 w _).trans (hB2.mono (form1 w _).size)⟩
  · go_enter Tryd.func73, Tryd.ntmps73
    go_wp2_with (first | (go_at_call 105; (with_reducible refine (HO.out _).mono ?_); rintro e w2 ⟨rfl, hB2⟩))
    go_ret
    exact ⟨by rw [HV.out]; simp [q0], (form1 w _).trans (hB2.mono (form1 w _).size)⟩
set_option maxRecDepth 20000 in
set_option maxHeartbeats 4000000 in
theorem aitem_1_d (op rd a b n : Int) (s : ByteArray) (hs : s.size ≤ maxLen) (w : World) : Calls Tryd.prog 73 #[.agg #[.int .i64 1, .string s, .int .i64 op, .int .i64 rd, .int .i64 a, .int .i64 b, .int .i64 n], .bool true] w (ErrTo (itemE ⟨1, s, op, rd, a, b, n⟩ true) w) := by
  obtain ⟨v, hv⟩ : ∃ v, v = itemE ⟨1, s, op, rd, a, b, n⟩ true := ⟨_, rfl⟩
  rw [← hv]
  have hv2 : v = if (namedB s) && onlyB s op rd a b n s 0 0 0 0 0 then 0 else 1 := hv
  have HV := Lib.hid hv2
  clear hv hv2
  have HO := Lib.hid (fun W => aonly_any 1 0 op rd a b n 0 0 0 0 0 s s W)
  generalize onlyB s op rd a b n s 0 0 0 0 0 = to at *
  unfold OnlyTo at HO
  have HN := Lib.hid (fun W => anamed_any s hs W)
  generalize namedB s = tn at *
  clear hs
  cases q0 : tn
  · go_enter Tryd.func73, Tryd.ntmps73
    go_wp2_with (first | (go_at_call 105; (with_reducible refine (HO.out _).mono ?_); rintro e w2 ⟨rfl, hB2⟩) | (go_at_call 104; (with_reducible refine (HN.out _).mono ?_); rintro e w' ⟨rfl, rfl⟩))
    go_ret
    exact ⟨by rw [HV.out]; simp [q0], form1 w _⟩
  · cases q1 : to
    · go_enter Tryd.func73, Tryd.ntmps73
      go_wp2_with (first | (go_at_call 105; (with_reducible refine (HO.out _).mono ?_); rintro e w2 ⟨rfl, hB2⟩) | (go_at_call 104; (with_reducible refine (HN.out _).mono ?_); rintro e w' ⟨rfl, rfl⟩))
      go_ret
      exact ⟨by rw [HV.out]; simp [q0, q1], (form1 w _).trans (hB2.mono (form1 w _).size)⟩
    · go_enter Tryd.func73, Tryd.ntmps73
      go_wp2_with (first | (go_at_call 105; (with_reducible refine (HO.out _).mono ?_); rintro e w2 ⟨rfl, hB2⟩) | (go_at_call 104; (with_reducible refine (HN.out _).mono ?_); rintro e w' ⟨rfl, rfl⟩))
      go_ret
      exact ⟨by rw [HV.out]; simp [q0, q1], (form1 w _).trans (hB2.mono (form1 w _).size)⟩
set_option maxRecDepth 20000 in
set_option maxHeartbeats 4000000 in
theorem aitem_8_d (op rd a b n : Int) (s : ByteArray) (_hs : s.size ≤ maxLen) (w : World) : Calls Tryd.prog 73 #[.agg #[.int .i64 8, .string s, .int .i64 op, .int .i64 rd, .int .i64 a, .int .i64 b, .int .i64 n], .bool true] w (ErrTo (itemE ⟨8, s, op, rd, a, b, n⟩ true) w) := by
  obtain ⟨v, hv⟩ : ∃ v, v = itemE ⟨8, s, op, rd, a, b, n⟩ true := ⟨_, rfl⟩
  rw [← hv]
  have hv2 : v = if onlyB s op rd a b n no 0 0 0 0 n then 0 else 1 := hv
  have HV := Lib.hid hv2
  clear hv hv2
  have HO := Lib.hid (fun W => aonly_any 8 0 op rd a b n 0 0 0 0 n s no W)
  generalize onlyB s op rd a b n no 0 0 0 0 n = to at *
  unfold OnlyTo at HO
  unfold no at HO
  clear _hs
  cases q0 : to
  · go_enter Tryd.func73, Tryd.ntmps73
    go_wp2_with (first | (go_at_call 105; (with_reducible refine (HO.out _).mono ?_); rintro e w2 ⟨rfl, hB2⟩))
    go_ret
    exact ⟨by rw [HV.out]; simp [q0], (form1 w _).trans (hB2.mono (form1 w _).size)⟩
  · go_enter Tryd.func73, Tryd.ntmps73
    go_wp2_with (first | (go_at_call 105; (with_reducible refine (HO.out _).mono ?_); rintro e w2 ⟨rfl, hB2⟩))
    go_ret
    exact ⟨by rw [HV.out]; simp [q0], (form1 w _).trans (hB2.mono (form1 w _).size)⟩
set_option maxRecDepth 20000 in
set_option maxHeartbeats 4000000 in
theorem aitem_3_d (op rd a b n : Int) (s : ByteArray) (w : World) : Calls Tryd.prog 73 #[.agg #[.int .i64 3, .string s, .int .i64 op, .int .i64 rd, .int .i64 a, .int .i64 b, .int .i64 n], .bool true] w (ErrTo (itemE ⟨3, s, op, rd, a, b, n⟩ true) w) := by
  obtain ⟨v, hv⟩ : ∃ v, v = itemE ⟨3, s, op, rd, a, b, n⟩ true := ⟨_, rfl⟩
  rw [← hv]
  have HV := Lib.hid (show v = 1 by rw [hv]; simp [itemE, okI])
  clear hv
  go_enter Tryd.func73, Tryd.ntmps73
  go_wp2
  all_goals go_ret
  all_goals exact ⟨by rw [HV.out]; rfl, form1 w _⟩
set_option maxRecDepth 20000 in
set_option maxHeartbeats 4000000 in
theorem aitem_4_d (op rd a b n : Int) (s : ByteArray) (w : World) : Calls Tryd.prog 73 #[.agg #[.int .i64 4, .string s, .int .i64 op, .int .i64 rd, .int .i64 a, .int .i64 b, .int .i64 n], .bool true] w (ErrTo (itemE ⟨4, s, op, rd, a, b, n⟩ true) w) := by
  obtain ⟨v, hv⟩ : ∃ v, v = itemE ⟨4, s, op, rd, a, b, n⟩ true := ⟨_, rfl⟩
  rw [← hv]
  have HV := Lib.hid (show v = 1 by rw [hv]; simp [itemE, okI])
  clear hv
  go_enter Tryd.func73, Tryd.ntmps73
  go_wp2
  all_goals go_ret
  all_goals exact ⟨by rw [HV.out]; rfl, form1 w _⟩
set_option maxRecDepth 20000 in
set_option maxHeartbeats 4000000 in
theorem aitem_5_d (op rd a b n : Int) (s : ByteArray) (w : World) : Calls Tryd.prog 73 #[.agg #[.int .i64 5, .string s, .int .i64 op, .int .i64 rd, .int .i64 a, .int .i64 b, .int .i64 n], .bool true] w (ErrTo (itemE ⟨5, s, op, rd, a, b, n⟩ true) w) := by
  obtain ⟨v, hv⟩ : ∃ v, v = itemE ⟨5, s, op, rd, a, b, n⟩ true := ⟨_, rfl⟩
  rw [← hv]
  have HV := Lib.hid (show v = 1 by rw [hv]; simp [itemE, okI])
  clear hv
  go_enter Tryd.func73, Tryd.ntmps73
  go_wp2
  all_goals go_ret
  all_goals exact ⟨by rw [HV.out]; rfl, form1 w _⟩
set_option maxRecDepth 20000 in
set_option maxHeartbeats 4000000 in
theorem aitem_6_d (op rd a b n : Int) (s : ByteArray) (w : World) : Calls Tryd.prog 73 #[.agg #[.int .i64 6, .string s, .int .i64 op, .int .i64 rd, .int .i64 a, .int .i64 b, .int .i64 n], .bool true] w (ErrTo (itemE ⟨6, s, op, rd, a, b, n⟩ true) w) := by
  obtain ⟨v, hv⟩ : ∃ v, v = itemE ⟨6, s, op, rd, a, b, n⟩ true := ⟨_, rfl⟩
  rw [← hv]
  have HV := Lib.hid (show v = 1 by rw [hv]; simp [itemE, okI])
  clear hv
  go_enter Tryd.func73, Tryd.ntmps73
  go_wp2
  all_goals go_ret
  all_goals exact ⟨by rw [HV.out]; rfl, form1 w _⟩
set_option maxRecDepth 20000 in
set_option maxHeartbeats 4000000 in
theorem aitem_7_d (op rd a b n : Int) (s : ByteArray) (w : World) : Calls Tryd.prog 73 #[.agg #[.int .i64 7, .string s, .int .i64 op, .int .i64 rd, .int .i64 a, .int .i64 b, .int .i64 n], .bool true] w (ErrTo (itemE ⟨7, s, op, rd, a, b, n⟩ true) w) := by
  obtain ⟨v, hv⟩ : ∃ v, v = itemE ⟨7, s, op, rd, a, b, n⟩ true := ⟨_, rfl⟩
  rw [← hv]
  have HV := Lib.hid (show v = 1 by rw [hv]; simp [itemE, okI])
  clear hv
  go_enter Tryd.func73, Tryd.ntmps73
  go_wp2
  all_goals go_ret
  all_goals exact ⟨by rw [HV.out]; rfl, form1 w _⟩
set_option maxRecDepth 20000 in
set_option maxHeartbeats 4000000 in
theorem aitem_2_d (op rd a b n : Int) (s : ByteArray) (w : World) : Calls Tryd.prog 73 #[.agg #[.int .i64 2, .string s, .int .i64 op, .int .i64 rd, .int .i64 a, .int .i64 b, .int .i64 n], .bool true] w (ErrTo (itemE ⟨2, s, op, rd, a, b, n⟩ true) w) := by
  obtain ⟨v, hv⟩ : ∃ v, v = itemE ⟨2, s, op, rd, a, b, n⟩ true := ⟨_, rfl⟩
  rw [← hv]
  have HV := Lib.hid (show v = 1 by rw [hv]; simp [itemE, okI])
  clear hv
  cases t1 : (s.toList == [])
  all_goals
    go_enter Tryd.func73, Tryd.ntmps73
    go_wp2
    all_goals go_ret
    all_goals exact ⟨by rw [HV.out]; rfl, form1 w _⟩
set_option maxRecDepth 20000 in
set_option maxHeartbeats 4000000 in
theorem aitem_2_t (op rd a b n : Int) (s : ByteArray) (w : World) (hR : RvRows w) : Calls Tryd.prog 73 #[.agg #[.int .i64 2, .string s, .int .i64 op, .int .i64 rd, .int .i64 a, .int .i64 b, .int .i64 n], .bool false] w (ErrTo (itemE ⟨2, s, op, rd, a, b, n⟩ false) w) := by
  obtain ⟨v, hv⟩ : ∃ v, v = itemE ⟨2, s, op, rd, a, b, n⟩ false := ⟨_, rfl⟩
  rw [← hv]
  have hv2 : v = if rightI op rd a b n = false then 11 else if s.toList == [] then 0 else 1 := by rw [hv]; simp [itemE, okI]
  have HV := Lib.hid hv2
  clear hv hv2
  have hR0 := hR.below (form1 w (.cells #[.int .i64 2, .string s, .int .i64 op, .int .i64 rd, .int .i64 a, .int .i64 b, .int .i64 n] 61))
  clear hR
  have HC := Lib.hid (fun W (hW : RvRows W) => rvCheck_any op rd a b n W hW)
  unfold CheckTo insE at HC
  cases hr : rightI op rd a b n
  · rw [hr] at HC
    go_enter Tryd.func73, Tryd.ntmps73
    go_wp2_with fail
    refine Calls.mono (HC.out _ hR0) ?_
    rintro e w2 ⟨rfl, hB2⟩
    go_wp2
    go_ret
    exact ⟨by rw [HV.out, hr]; rfl, (form1 w _).trans (hB2.mono (form1 w _).size)⟩
  · rw [hr] at HC
    cases t1 : (s.toList == [])
    all_goals
      go_enter Tryd.func73, Tryd.ntmps73
      go_wp2_with fail
      refine Calls.mono (HC.out _ hR0) ?_
      rintro e w2 ⟨rfl, hB2⟩
      have hb2 : w2.heap[w.heap.size]? = some (.cells #[.int .i64 2, .string s, .int .i64 op, .int .i64 rd, .int .i64 a, .int .i64 b, .int .i64 n] 61 (0, 0)) := (hB2.block _ (by rw [World.size_alloc]; omega)).trans (heap_alloc_new w _)
      have x1 : w2.cell? ⟨w.heap.size, 1, none⟩ = some (.string s) := (obj_cell hb2 1).trans rfl
      clear hb2
      go_wp2
      all_goals go_ret
      all_goals exact ⟨by rw [HV.out, hr]; simp [t1], (form1 w _).trans (hB2.mono (form1 w _).size)⟩
set_option maxRecDepth 20000 in
set_option maxHeartbeats 4000000 in
theorem aitem_x (k op rd a b n : Int) (s : ByteArray) (d : Bool) (hk : k < 1 ∨ 9 < k) (w : World) : Calls Tryd.prog 73 #[.agg #[.int .i64 k, .string s, .int .i64 op, .int .i64 rd, .int .i64 a, .int .i64 b, .int .i64 n], .bool d] w (ErrTo (itemE ⟨k, s, op, rd, a, b, n⟩ d) w) := by
  obtain ⟨v, hv⟩ : ∃ v, v = itemE ⟨k, s, op, rd, a, b, n⟩ d := ⟨_, rfl⟩
  rw [← hv]
  have k1 : ¬ k = 1 := by omega
  have k2 : ¬ k = 2 := by omega
  have k3 : ¬ k = 3 := by omega
  have k4 : ¬ k = 4 := by omega
  have k5 : ¬ k = 5 := by omega
  have k6 : ¬ k = 6 := by omega
  have k7 : ¬ k = 7 := by omega
  have k8 : ¬ k = 8 := by omega
  have k9 : ¬ k = 9 := by omega
  have HV := Lib.hid (show v = 1 by rw [hv]; simp [itemE, okI, k1, k2, k3, k4, k5, k6, k7, k8, k9])
  have f1 : (k == 1) = false := by simpa using k1
  have f2 : (k == 2) = false := by simpa using k2
  have f3 : (k == 3) = false := by simpa using k3
  have f4 : (k == 4) = false := by simpa using k4
  have f5 : (k == 5) = false := by simpa using k5
  have f6 : (k == 6) = false := by simpa using k6
  have f7 : (k == 7) = false := by simpa using k7
  have f8 : (k == 8) = false := by simpa using k8
  have f9 : (k == 9) = false := by simpa using k9
  clear hv hk k1 k2 k3 k4 k5 k6 k7 k8 k9
  go_enter Tryd.func73, Tryd.ntmps73
  go_wp2
  go_ret
  exact ⟨by rw [HV.out]; rfl, form1 w _⟩
theorem of_tmod (n m : Int) (h : 0 ≤ n) : n.tmod m = n % m := Int.tmod_eq_emod_of_nonneg h
set_option maxRecDepth 20000 in
set_option maxHeartbeats 4000000 in
theorem aitem_9_t (op rd a b n : Int) (s : ByteArray) (w : World) : Calls Tryd.prog 73 #[.agg #[.int .i64 9, .string s, .int .i64 op, .int .i64 rd, .int .i64 a, .int .i64 b, .int .i64 n], .bool false] w (ErrTo (itemE ⟨9, s, op, rd, a, b, n⟩ false) w) := by
  obtain ⟨v, hv⟩ : ∃ v, v = itemE ⟨9, s, op, rd, a, b, n⟩ false := ⟨_, rfl⟩
  rw [← hv]
  have hv2 : v = if ((decide (0 ≤ n) && decide (n ≤ 1048576)) && (false || (n.tmod 4 == 0))) && onlyB s op rd a b n no 0 0 0 0 n then 0 else 1 := by rw [hv]; simp [itemE, okI]
  have HV := Lib.hid hv2
  clear hv hv2
  have HO := Lib.hid (fun W => aonly_any 9 0 op rd a b n 0 0 0 0 n s no W)
  generalize onlyB s op rd a b n no 0 0 0 0 n = to at *
  unfold OnlyTo at HO
  unfold no at HO
  cases q0 : decide (0 ≤ n)
  · go_enter Tryd.func73, Tryd.ntmps73
    go_wp2
    all_goals go_ret
    all_goals exact ⟨by rw [HV.out]; simp [q0], form1 w _⟩
  · cases q1 : decide (n ≤ 1048576)
    · go_enter Tryd.func73, Tryd.ntmps73
      go_wp2
      all_goals go_ret
      all_goals exact ⟨by rw [HV.out]; simp [q0, q1], form1 w _⟩
    · cases q2 : (n.tmod 4 == 0)
      · have q2b := q2
        rw [of_tmod n 4 (of_decide_eq_true q0)] at q2b
        go_enter Tryd.func73, Tryd.ntmps73
        go_wp2
        all_goals go_ret
        all_goals exact ⟨by rw [HV.out]; simp [q0, q1, q2], form1 w _⟩
      · have q2b := q2
        rw [of_tmod n 4 (of_decide_eq_true q0)] at q2b
        cases q3 : to
        · go_enter Tryd.func73, Tryd.ntmps73
          go_wp2_with (first | (go_at_call 105; (with_reducible refine (HO.out _).mono ?_); rintro e w2 ⟨rfl, hB2⟩))
          all_goals go_ret
          all_goals exact ⟨by rw [HV.out]; simp [q0, q1, q2, q3], (form1 w _).trans (hB2.mono (form1 w _).size)⟩
        · go_enter Tryd.func73, Tryd.ntmps73
          go_wp2_with (first | (go_at_call 105; (with_reducible refine (HO.out _).mono ?_); rintro e w2 ⟨rfl, hB2⟩))
          all_goals go_ret
          all_goals exact ⟨by rw [HV.out]; simp [q0, q1, q2, q3], (form1 w _).trans (hB2.mono (form1 w _).size)⟩
set_option maxRecDepth 20000 in
set_option maxHeartbeats 4000000 in
theorem aitem_9_d (op rd a b n : Int) (s : ByteArray) (w : World) : Calls Tryd.prog 73 #[.agg #[.int .i64 9, .string s, .int .i64 op, .int .i64 rd, .int .i64 a, .int .i64 b, .int .i64 n], .bool true] w (ErrTo (itemE ⟨9, s, op, rd, a, b, n⟩ true) w) := by
  obtain ⟨v, hv⟩ : ∃ v, v = itemE ⟨9, s, op, rd, a, b, n⟩ true := ⟨_, rfl⟩
  rw [← hv]
  have hv2 : v = if ((decide (0 ≤ n) && decide (n ≤ 1048576)) && (true || (n.tmod 4 == 0))) && onlyB s op rd a b n no 0 0 0 0 n then 0 else 1 := by rw [hv]; simp [itemE, okI]
  have HV := Lib.hid hv2
  clear hv hv2
  have HO := Lib.hid (fun W => aonly_any 9 0 op rd a b n 0 0 0 0 n s no W)
  generalize onlyB s op rd a b n no 0 0 0 0 n = to at *
  unfold OnlyTo at HO
  unfold no at HO
  cases q0 : decide (0 ≤ n)
  · go_enter Tryd.func73, Tryd.ntmps73
    go_wp2
    all_goals go_ret
    all_goals exact ⟨by rw [HV.out]; simp [q0], form1 w _⟩
  · cases q1 : decide (n ≤ 1048576)
    · go_enter Tryd.func73, Tryd.ntmps73
      go_wp2
      all_goals go_ret
      all_goals exact ⟨by rw [HV.out]; simp [q0, q1], form1 w _⟩
    · cases q3 : to
      · go_enter Tryd.func73, Tryd.ntmps73
        go_wp2_with (first | (go_at_call 105; (with_reducible refine (HO.out _).mono ?_); rintro e w2 ⟨rfl, hB2⟩))
        all_goals go_ret
        all_goals exact ⟨by rw [HV.out]; simp [q0, q1, q3], (form1 w _).trans (hB2.mono (form1 w _).size)⟩
      · go_enter Tryd.func73, Tryd.ntmps73
        go_wp2_with (first | (go_at_call 105; (with_reducible refine (HO.out _).mono ?_); rintro e w2 ⟨rfl, hB2⟩))
        all_goals go_ret
        all_goals exact ⟨by rw [HV.out]; simp [q0, q1, q3], (form1 w _).trans (hB2.mono (form1 w _).size)⟩
theorem aitem_any (x : It) (d : Bool) (hs : x.s.size ≤ maxLen) (w : World) (hR : RvRows w) : Calls Tryd.prog 73 #[.agg x.cs, .bool d] w (ErrTo (itemE x d) w) := by
  obtain ⟨k, s, op, rd, a, b, n⟩ := x
  show Calls Tryd.prog 73 #[.agg #[.int .i64 k, .string s, .int .i64 op, .int .i64 rd, .int .i64 a, .int .i64 b, .int .i64 n], .bool d] w (ErrTo (itemE ⟨k, s, op, rd, a, b, n⟩ d) w)
  by_cases hk : k < 1 ∨ 9 < k
  · exact aitem_x k op rd a b n s d hk w
  · rcases (show k = 1 ∨ k = 2 ∨ k = 3 ∨ k = 4 ∨ k = 5 ∨ k = 6 ∨ k = 7 ∨ k = 8 ∨ k = 9 by omega) with rfl | rfl | rfl | rfl | rfl | rfl | rfl | rfl | rfl <;> cases d
    · exact aitem_1_t op rd a b n s hs w
    · exact aitem_1_d op rd a b n s hs w
    · exact aitem_2_t op rd a b n s w hR
    · exact aitem_2_d op rd a b n s w
    · exact aitem_3_t op rd a b n s hs w
    · exact aitem_3_d op rd a b n s w
    · exact aitem_4_t op rd a b n s hs w
    · exact aitem_4_d op rd a b n s w
    · exact aitem_5_t op rd a b n s hs w
    · exact aitem_5_d op rd a b n s w
    · exact aitem_6_t op rd a b n s hs w
    · exact aitem_6_d op rd a b n s w
    · exact aitem_7_t op rd a b n s hs w
    · exact aitem_7_d op rd a b n s w
    · exact aitem_8_t op rd a b n s hs w
    · exact aitem_8_d op rd a b n s hs w
    · exact aitem_9_t op rd a b n s w
    · exact aitem_9_d op rd a b n s w
end Go.Proofs
