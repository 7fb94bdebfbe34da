/- patinaref05: its small functions return. (Printed by wip/tools/gen_r5.py.) -/
import Derived.Test.YtemngapfnkokiaaDoorItem
import Derived.Test.YtemngapfnkokiaaDoorRightR
import Derived.Test.YtemngapfnkokiaaDoorLiR
import Derived.Test.YtemngapfnkokiaaDoorCase5K
import Derived.BigQuiet
import Derived.Deep.QuietTactic
import Derived.Test.YtemngapfnkokiaaDoorAsmM
import Derived.Test.YtemngapfnkokiaaDoorStepB
import Derived.OwnWalk
import Derived.StillTailTactics
import Derived.Test.YtemngapfnkokiaaDoorAsmW
import Derived.Test.YtemngapfnkokiaaDoorWord
import Derived.Test.YtemngapfnkokiaaDoorEnc
import Derived.Deep.RegionHeld3
import Derived.Test.YtemngapfnkokiaaDoorLittle
import Derived.Test.YtemngapfnkokiaaDoorLoads
import Derived.Test.YtemngapfnkokiaaDoorAsm
import Derived.Test.YtemngapfnkokiaaDoorFindL
import Derived.Test.YtemngapfnkokiaaDoorSmall5
import Derived.Test.YtemngapfnkokiaaDoorRows
import Derived.Test.YtemngapfnkokiaaDoorTie
import Derived.Test.YtemngapfnkokiaaDoorCards
import Derived.Test.YtemngapfnkokiaaDoorOpen
import Derived.ProofKit
import Derived.LaidMore
import Derived.OpenShut
import Derived.Stop.Joined
import Derived.SevenTiedAt
namespace Go.Pat
open Go Go.RowKit
def only5 (op rd a b n op2 rd2 a2 b2 n2 : Int) : Bool := decide (op = op2 ∧ rd = rd2 ∧ a = a2 ∧ b = b2 ∧ n = n2)
/-- what an item has that is not wrong. -/
def OkR (x : It) : Prop :=
  (x.k = 2 → rightI x.op x.rd x.a x.b x.n = true) ∧ (x.k = 3 → 0 ≤ x.rd ∧ x.rd ≤ 31) ∧ (x.k = 4 ∨ x.k = 6 → 1 ≤ x.rd ∧ x.rd ≤ 31) ∧ (x.k = 5 → x.rd = 0) ∧
  (x.k = 7 → 5 ≤ x.op ∧ x.op ≤ 10 ∧ x.rd = 0 ∧ (0 ≤ x.a ∧ x.a ≤ 31) ∧ 0 ≤ x.b ∧ x.b ≤ 31) ∧ (x.k = 9 → 0 ≤ x.n ∧ x.n ≤ 1048576)
def refK (k : Int) : Prop := k = 4 ∨ k = 5 ∨ k = 6 ∨ k = 7
/-- an instruction that has a word. -/
def WordOk (i : In) : Prop := (0 ≤ i.op ∧ i.op < 66) ∧ (0 ≤ i.rd ∧ i.rd < 32) ∧ (0 ≤ i.a ∧ i.a < 32) ∧ (0 ≤ i.b ∧ i.b < 32)
end Go.Pat
namespace Go.Proofs
open Go Go.RowKit Go.Pat
theorem r5name_any (s : ByteArray) (hs : s.size ≤ maxLen) (w : World) : Calls Tryd.prog 136 #[.string s] w fun e w' => e = .returned (.bool (namedB s)) ∧ w' = w := by
  unfold namedB
  unfold maxLen at hs
  cases t1 : decide (1 ≤ s.size)
  · have t1' : decide ((1 : Int) ≤ (s.size : Int)) = false := decide_eq_false (by have := of_decide_eq_false t1; omega)
    go_enter Tryd.func136, Tryd.ntmps136
    go_wp2
    go_ret
    exact ⟨rfl, rfl⟩
  · have t1' : decide ((1 : Int) ≤ (s.size : Int)) = true := decide_eq_true (by have := of_decide_eq_true t1; omega)
    cases t2 : decide (s.size ≤ 128)
    · have t2' : decide ((s.size : Int) ≤ (128 : Int)) = false := decide_eq_false (by have := of_decide_eq_false t2; omega)
      go_enter Tryd.func136, Tryd.ntmps136
      go_wp2
      go_ret
      exact ⟨rfl, rfl⟩
    · have t2' : decide ((s.size : Int) ≤ (128 : Int)) = true := decide_eq_true (by have := of_decide_eq_true t2; omega)
      go_enter Tryd.func136, Tryd.ntmps136
      go_wp2
      go_ret
      exact ⟨rfl, rfl⟩
set_option maxHeartbeats 1000000 in
theorem r5only_any (op rd a b n op2 rd2 a2 b2 n2 : Int) (w : World) :
    Calls Tryd.prog 137 #[.agg #[.int .i64 op, .int .i64 rd, .int .i64 a, .int .i64 b, .int .i64 n], .agg #[.int .i64 op2, .int .i64 rd2, .int .i64 a2, .int .i64 b2, .int .i64 n2]] w (OnlyTo (only5 op rd a b n op2 rd2 a2 b2 n2) w) := by
  go_enter Tryd.func137, Tryd.ntmps137
  go_wp2
  all_goals
    go_ret
    refine ⟨congrArg (fun z => Ending.returned (Value.bool z)) ?_, form2 w _ _⟩
    unfold only5
    first
      | (symm; rw [decide_eq_true_eq]; refine ⟨?_, ?_, ?_, ?_, ?_⟩ <;> first | assumption | omega)
      | (symm; rw [decide_eq_false_iff_not]; rintro ⟨rfl, rfl, rfl, rfl, rfl⟩; simp_all)
      | (first | (congr 1; done) | simp [Bool.and_assoc] | grind)
theorem only5_rd {op rd a b n op2 rd2 a2 b2 n2 : Int} (h : only5 op rd a b n op2 rd2 a2 b2 n2 = true) : rd = rd2 := by
  unfold only5 at h
  exact (of_decide_eq_true h).2.1
def WrongTo (P : Prop) (w : World) (e : Ending) (w' : World) : Prop := ∃ z : Int, e = .returned (.int .i64 z) ∧ (z = 0 → P) ∧ Below w.heap.size w w'
set_option maxRecDepth 20000 in
set_option maxHeartbeats 4000000 in
theorem r5wrong_1_t (op rd a b n : Int) (s : ByteArray) (hs : s.size ≤ maxLen) (w : World) : Calls Tryd.prog 115 #[.agg #[.int .i64 1, .string s, .int .i64 op, .int .i64 rd, .int .i64 a, .int .i64 b, .int .i64 n], .bool true] w (WrongTo (True) w) := by
  have HN := Lib.hid (fun W => r5name_any s hs W)
  generalize namedB s = tn at *
  clear hs
  cases q0 : tn
  · go_enter Tryd.func115, Tryd.ntmps115
    go_wp2_with (first | (go_at_call 136; (with_reducible refine (HN.out _).mono ?_); rintro e w' ⟨rfl, rfl⟩))
    all_goals go_ret
    all_goals exact ⟨_, rfl, fun h => absurd h (by decide), form2 w _ _⟩
  · go_enter Tryd.func115, Tryd.ntmps115
    go_wp2_with (first | (go_at_call 136; (with_reducible refine (HN.out _).mono ?_); rintro e w' ⟨rfl, rfl⟩))
    all_goals go_ret
    all_goals first | exact ⟨_, rfl, fun _ => by ( first | exact ⟨g1, g2, H, ⟨g3, g4⟩, g5, g6⟩ | assumption | trivial | (refine ⟨?_, ?_⟩ <;> omega) | omega), form2 w _ _⟩ | exact ⟨_, rfl, fun h => absurd h (by decide), form2 w _ _⟩
set_option maxRecDepth 20000 in
set_option maxHeartbeats 4000000 in
theorem r5wrong_5_t (op rd a b n : Int) (s : ByteArray) (hs : s.size ≤ maxLen) (w : World) : Calls Tryd.prog 115 #[.agg #[.int .i64 5, .string s, .int .i64 op, .int .i64 rd, .int .i64 a, .int .i64 b, .int .i64 n], .bool true] w (WrongTo (rd = 0) w) := by
  have HN := Lib.hid (fun W => r5name_any s hs W)
  generalize namedB s = tn at *
  clear hs
  cases q0 : tn
  · go_enter Tryd.func115, Tryd.ntmps115
    go_wp2_with (first | (go_at_call 136; (with_reducible refine (HN.out _).mono ?_); rintro e w' ⟨rfl, rfl⟩))
    all_goals go_ret
    all_goals exact ⟨_, rfl, fun h => absurd h (by decide), form2 w _ _⟩
  · go_enter Tryd.func115, Tryd.ntmps115
    go_wp2_with (first | (go_at_call 136; (with_reducible refine (HN.out _).mono ?_); rintro e w' ⟨rfl, rfl⟩))
    all_goals go_ret
    all_goals first | exact ⟨_, rfl, fun _ => by ( first | exact ⟨g1, g2, H, ⟨g3, g4⟩, g5, g6⟩ | assumption | trivial | (refine ⟨?_, ?_⟩ <;> omega) | omega), form2 w _ _⟩ | exact ⟨_, rfl, fun h => absurd h (by decide), form2 w _ _⟩
set_option maxRecDepth 20000 in
set_option maxHeartbeats 4000000 in
theorem r5wrong_3_t (op rd a b n : Int) (s : ByteArray) (_hs : s.size ≤ maxLen) (w : World) : Calls Tryd.prog 115 #[.agg #[.int .i64 3, .string s, .int .i64 op, .int .i64 rd, .int .i64 a, .int .i64 b, .int .i64 n], .bool true] w (WrongTo (0 ≤ rd ∧ rd ≤ 31) w) := by
  have hto : only5 op rd a b n 0 rd 0 0 n = true → rd = rd := only5_rd
  have HO := Lib.hid (fun W => r5only_any op rd a b n 0 rd 0 0 n W)
  generalize only5 op rd a b n 0 rd 0 0 n = to at *
  unfold OnlyTo at HO
  have HT := Lib.hid hto
  clear hto
  cases q0 : (s.toList == [])
  · go_enter Tryd.func115, Tryd.ntmps115
    go_wp2_with (first | (go_at_call 137; (with_reducible refine (HO.out _).mono ?_); rintro e w2 ⟨rfl, hB2⟩))
    all_goals go_ret
    all_goals exact ⟨_, rfl, fun h => absurd h (by decide), form2 w _ _⟩
  · cases q1 : decide (0 ≤ rd)
    · go_enter Tryd.func115, Tryd.ntmps115
      go_wp2_with (first | (go_at_call 137; (with_reducible refine (HO.out _).mono ?_); rintro e w2 ⟨rfl, hB2⟩))
      all_goals go_ret
      all_goals exact ⟨_, rfl, fun h => absurd h (by decide), form2 w _ _⟩
    · cases q2 : decide (rd ≤ 31)
      · go_enter Tryd.func115, Tryd.ntmps115
        go_wp2_with (first | (go_at_call 137; (with_reducible refine (HO.out _).mono ?_); rintro e w2 ⟨rfl, hB2⟩))
        all_goals go_ret
        all_goals exact ⟨_, rfl, fun h => absurd h (by decide), form2 w _ _⟩
      · cases q3 : to
        · go_enter Tryd.func115, Tryd.ntmps115
          go_wp2_with (first | (go_at_call 137; (with_reducible refine (HO.out _).mono ?_); rintro e w2 ⟨rfl, hB2⟩))
          all_goals go_ret
          all_goals exact ⟨_, rfl, fun h => absurd h (by decide), (form2 w _ _).trans (hB2.mono (form2 w _ _).size)⟩
        · go_enter Tryd.func115, Tryd.ntmps115
          go_wp2_with (first | (go_at_call 137; (with_reducible refine (HO.out _).mono ?_); rintro e w2 ⟨rfl, hB2⟩))
          all_goals go_ret
          all_goals first | exact ⟨_, rfl, fun _ => by (have g1 := of_decide_eq_true q1; have g2 := of_decide_eq_true q2; first | exact ⟨g1, g2, H, ⟨g3, g4⟩, g5, g6⟩ | assumption | trivial | (refine ⟨?_, ?_⟩ <;> omega) | omega), (form2 w _ _).trans (hB2.mono (form2 w _ _).size)⟩ | exact ⟨_, rfl, fun h => absurd h (by decide), (form2 w _ _).trans (hB2.mono (form2 w _ _).size)⟩
set_option maxRecDepth 20000 in
set_option maxHeartbeats 4000000 in
theorem r5wrong_4_t (op rd a b n : Int) (s : ByteArray) (hs : s.size ≤ maxLen) (w : World) : Calls Tryd.prog 115 #[.agg #[.int .i64 4, .string s, .int .i64 op, .int .i64 rd, .int .i64 a, .int .i64 b, .int .i64 n], .bool true] w (WrongTo (1 ≤ rd ∧ rd ≤ 31) w) := by
  have hto : only5 op rd a b n 0 rd 0 0 0 = true → rd = rd := only5_rd
  have HO := Lib.hid (fun W => r5only_any op rd a b n 0 rd 0 0 0 W)
  generalize only5 op rd a b n 0 rd 0 0 0 = to at *
  unfold OnlyTo at HO
  have HT := Lib.hid hto
  clear hto
  have HN := Lib.hid (fun W => r5name_any s hs W)
  generalize namedB s = tn at *
  clear hs
  cases q0 : tn
  · go_enter Tryd.func115, Tryd.ntmps115
    go_wp2_with (first | (go_at_call 137; (with_reducible refine (HO.out _).mono ?_); rintro e w2 ⟨rfl, hB2⟩) | (go_at_call 136; (with_reducible refine (HN.out _).mono ?_); rintro e w' ⟨rfl, rfl⟩))
    all_goals go_ret
    all_goals exact ⟨_, rfl, fun h => absurd h (by decide), form2 w _ _⟩
  · cases q1 : decide (1 ≤ rd)
    · go_enter Tryd.func115, Tryd.ntmps115
      go_wp2_with (first | (go_at_call 137; (with_reducible refine (HO.out _).mono ?_); rintro e w2 ⟨rfl, hB2⟩) | (go_at_call 136; (with_reducible refine (HN.out _).mono ?_); rintro e w' ⟨rfl, rfl⟩))
      all_goals go_ret
      all_goals exact ⟨_, rfl, fun h => absurd h (by decide), form2 w _ _⟩
    · cases q2 : decide (rd ≤ 31)
      · go_enter Tryd.func115, Tryd.ntmps115
        go_wp2_with (first | (go_at_call 137; (with_reducible refine (HO.out _).mono ?_); rintro e w2 ⟨rfl, hB2⟩) | (go_at_call 136; (with_reducible refine (HN.out _).mono ?_); rintro e w' ⟨rfl, rfl⟩))
        all_goals go_ret
        all_goals exact ⟨_, rfl, fun h => absurd h (by decide), form2 w _ _⟩
      · cases q3 : to
        · go_enter Tryd.func115, Tryd.ntmps115
          go_wp2_with (first | (go_at_call 137; (with_reducible refine (HO.out _).mono ?_); rintro e w2 ⟨rfl, hB2⟩) | (go_at_call 136; (with_reducible refine (HN.out _).mono ?_); rintro e w' ⟨rfl, rfl⟩))
          all_goals go_ret
          all_goals exact ⟨_, rfl, fun h => absurd h (by decide), (form2 w _ _).trans (hB2.mono (form2 w _ _).size)⟩
        · go_enter Tryd.func115, Tryd.ntmps115
          go_wp2_with (first | (go_at_call 137; (with_reducible refine (HO.out _).mono ?_); rintro e w2 ⟨rfl, hB2⟩) | (go_at_call 136; (with_reducible refine (HN.out _).mono ?_); rintro e w' ⟨rfl, rfl⟩))
          all_goals go_ret
          all_goals first | exact ⟨_, rfl, fun _ => by (have g1 := of_decide_eq_true q1; have g2 := of_decide_eq_true q2; first | exact ⟨g1, g2, H, ⟨g3, g4⟩, g5, g6⟩ | assumption | trivial | (refine ⟨?_, ?_⟩ <;> omega) | omega), (form2 w _ _).trans (hB2.mono (form2 w _ _).size)⟩ | exact ⟨_, rfl, fun h => absurd h (by decide), (form2 w _ _).trans (hB2.mono (form2 w _ _).size)⟩
set_option maxRecDepth 20000 in
set_option maxHeartbeats 4000000 in
theorem r5wrong_6_t (op rd a b n : Int) (s : ByteArray) (hs : s.size ≤ maxLen) (w : World) : Calls Tryd.prog 115 #[.agg #[.int .i64 6, .string s, .int .i64 op, .int .i64 rd, .int .i64 a, .int .i64 b, .int .i64 n], .bool true] w (WrongTo (1 ≤ rd ∧ rd ≤ 31) w) := by
  have hto : only5 op rd a b n 0 rd 0 0 0 = true → rd = rd := only5_rd
  have HO := Lib.hid (fun W => r5only_any op rd a b n 0 rd 0 0 0 W)
  generalize only5 op rd a b n 0 rd 0 0 0 = to at *
  unfold OnlyTo at HO
  have HT := Lib.hid hto
  clear hto
  have HN := Lib.hid (fun W => r5name_any s hs W)
  generalize namedB s = tn at *
  clear hs
  cases q0 : tn
  · go_enter Tryd.func115, Tryd.ntmps115
    go_wp2_with (first | (go_at_call 137; (with_reducible refine (HO.out _).mono ?_); rintro e w2 ⟨rfl, hB2⟩) | (go_at_call 136; (with_reducible refine (HN.out _).mono ?_); rintro e w' ⟨rfl, rfl⟩))
    all_goals go_ret
    all_goals exact ⟨_, rfl, fun h => absurd h (by decide), form2 w _ _⟩
  · cases q1 : decide (1 ≤ rd)
    · go_enter Tryd.func115, Tryd.ntmps115
      go_wp2_with (first | (go_at_call 137; (with_reducible refine (HO.out _).mono ?_); rintro e w2 ⟨rfl, hB2⟩) | (go_at_call 136; (with_reducible refine (HN.out _).mono ?_); rintro e w' ⟨rfl, rfl⟩))
      all_goals go_ret
      all_goals exact ⟨_, rfl, fun h => absurd h (by decide), form2 w _ _⟩
    · cases q2 : decide (rd ≤ 31)
      · go_enter Tryd.func115, Tryd.ntmps115
        go_wp2_with (first | (go_at_call 137; (with_reducible refine (HO.out _).mono ?_); rintro e w2 ⟨rfl, hB2⟩) | (go_at_call 136; (with_reducible refine (HN.out _).mono ?_); rintro e w' ⟨rfl, rfl⟩))
        all_goals go_ret
        all_goals exact ⟨_, rfl, fun h => absurd h (by decide), form2 w _ _⟩
      · cases q3 : to
        · go_enter Tryd.func115, Tryd.ntmps115
          go_wp2_with (first | (go_at_call 137; (with_reducible refine (HO.out _).mono ?_); rintro e w2 ⟨rfl, hB2⟩) | (go_at_call 136; (with_reducible refine (HN.out _).mono ?_); rintro e w' ⟨rfl, rfl⟩))
          all_goals go_ret
          all_goals exact ⟨_, rfl, fun h => absurd h (by decide), (form2 w _ _).trans (hB2.mono (form2 w _ _).size)⟩
        · go_enter Tryd.func115, Tryd.ntmps115
          go_wp2_with (first | (go_at_call 137; (with_reducible refine (HO.out _).mono ?_); rintro e w2 ⟨rfl, hB2⟩) | (go_at_call 136; (with_reducible refine (HN.out _).mono ?_); rintro e w' ⟨rfl, rfl⟩))
          all_goals go_ret
          all_goals first | exact ⟨_, rfl, fun _ => by (have g1 := of_decide_eq_true q1; have g2 := of_decide_eq_true q2; first | exact ⟨g1, g2, H, ⟨g3, g4⟩, g5, g6⟩ | assumption | trivial | (refine ⟨?_, ?_⟩ <;> omega) | omega), (form2 w _ _).trans (hB2.mono (form2 w _ _).size)⟩ | exact ⟨_, rfl, fun h => absurd h (by decide), (form2 w _ _).trans (hB2.mono (form2 w _ _).size)⟩
set_option maxRecDepth 20000 in
set_option maxHeartbeats 4000000 in
theorem r5wrong_7_t (op rd a b n : Int) (s : ByteArray) (hs : s.size ≤ maxLen) (w : World) : Calls Tryd.prog 115 #[.agg #[.int .i64 7, .string s, .int .i64 op, .int .i64 rd, .int .i64 a, .int .i64 b, .int .i64 n], .bool true] w (WrongTo (5 ≤ op ∧ op ≤ 10 ∧ rd = 0 ∧ (0 ≤ a ∧ a ≤ 31) ∧ 0 ≤ b ∧ b ≤ 31) w) := by
  have hto : only5 op rd a b n op 0 a b 0 = true → rd = 0 := only5_rd
  have HO := Lib.hid (fun W => r5only_any op rd a b n op 0 a b 0 W)
  generalize only5 op rd a b n op 0 a b 0 = to at *
  unfold OnlyTo at HO
  have HT := Lib.hid hto
  clear hto
  have HN := Lib.hid (fun W => r5name_any s hs W)
  generalize namedB s = tn at *
  clear hs
  cases q0 : tn
  · go_enter Tryd.func115, Tryd.ntmps115
    go_wp2_with (first | (go_at_call 137; (with_reducible refine (HO.out _).mono ?_); rintro e w2 ⟨rfl, hB2⟩) | (go_at_call 136; (with_reducible refine (HN.out _).mono ?_); rintro e w' ⟨rfl, rfl⟩))
    all_goals go_ret
    all_goals exact ⟨_, rfl, fun h => absurd h (by decide), form2 w _ _⟩
  · cases q1 : decide (5 ≤ op)
    · go_enter Tryd.func115, Tryd.ntmps115
      go_wp2_with (first | (go_at_call 137; (with_reducible refine (HO.out _).mono ?_); rintro e w2 ⟨rfl, hB2⟩) | (go_at_call 136; (with_reducible refine (HN.out _).mono ?_); rintro e w' ⟨rfl, rfl⟩))
      all_goals go_ret
      all_goals exact ⟨_, rfl, fun h => absurd h (by decide), form2 w _ _⟩
    · cases q2 : decide (op ≤ 10)
      · go_enter Tryd.func115, Tryd.ntmps115
        go_wp2_with (first | (go_at_call 137; (with_reducible refine (HO.out _).mono ?_); rintro e w2 ⟨rfl, hB2⟩) | (go_at_call 136; (with_reducible refine (HN.out _).mono ?_); rintro e w' ⟨rfl, rfl⟩))
        all_goals go_ret
        all_goals exact ⟨_, rfl, fun h => absurd h (by decide), form2 w _ _⟩
      · cases q3 : decide (0 ≤ a)
        · go_enter Tryd.func115, Tryd.ntmps115
          go_wp2_with (first | (go_at_call 137; (with_reducible refine (HO.out _).mono ?_); rintro e w2 ⟨rfl, hB2⟩) | (go_at_call 136; (with_reducible refine (HN.out _).mono ?_); rintro e w' ⟨rfl, rfl⟩))
          all_goals go_ret
          all_goals exact ⟨_, rfl, fun h => absurd h (by decide), form2 w _ _⟩
        · cases q4 : decide (a ≤ 31)
          · go_enter Tryd.func115, Tryd.ntmps115
            go_wp2_with (first | (go_at_call 137; (with_reducible refine (HO.out _).mono ?_); rintro e w2 ⟨rfl, hB2⟩) | (go_at_call 136; (with_reducible refine (HN.out _).mono ?_); rintro e w' ⟨rfl, rfl⟩))
            all_goals go_ret
            all_goals exact ⟨_, rfl, fun h => absurd h (by decide), form2 w _ _⟩
          · cases q5 : decide (0 ≤ b)
            · go_enter Tryd.func115, Tryd.ntmps115
              go_wp2_with (first | (go_at_call 137; (with_reducible refine (HO.out _).mono ?_); rintro e w2 ⟨rfl, hB2⟩) | (go_at_call 136; (with_reducible refine (HN.out _).mono ?_); rintro e w' ⟨rfl, rfl⟩))
              all_goals go_ret
              all_goals exact ⟨_, rfl, fun h => absurd h (by decide), form2 w _ _⟩
            · cases q6 : decide (b ≤ 31)
              · go_enter Tryd.func115, Tryd.ntmps115
                go_wp2_with (first | (go_at_call 137; (with_reducible refine (HO.out _).mono ?_); rintro e w2 ⟨rfl, hB2⟩) | (go_at_call 136; (with_reducible refine (HN.out _).mono ?_); rintro e w' ⟨rfl, rfl⟩))
                all_goals go_ret
                all_goals exact ⟨_, rfl, fun h => absurd h (by decide), form2 w _ _⟩
              · cases q7 : to
                · go_enter Tryd.func115, Tryd.ntmps115
                  go_wp2_with (first | (go_at_call 137; (with_reducible refine (HO.out _).mono ?_); rintro e w2 ⟨rfl, hB2⟩) | (go_at_call 136; (with_reducible refine (HN.out _).mono ?_); rintro e w' ⟨rfl, rfl⟩))
                  all_goals go_ret
                  all_goals exact ⟨_, rfl, fun h => absurd h (by decide), (form2 w _ _).trans (hB2.mono (form2 w _ _).size)⟩
                · go_enter Tryd.func115, Tryd.ntmps115
                  go_wp2_with (first | (go_at_call 137; (with_reducible refine (HO.out _).mono ?_); rintro e w2 ⟨rfl, hB2⟩) | (go_at_call 136; (with_reducible refine (HN.out _).mono ?_); rintro e w' ⟨rfl, rfl⟩))
                  all_goals go_ret
                  all_goals first | exact ⟨_, rfl, fun _ => by (have H := HT.out (by first | rfl | assumption); have g1 := of_decide_eq_true q1; have g2 := of_decide_eq_true q2; have g3 := of_decide_eq_true q3; have g4 := of_decide_eq_true q4; have g5 := of_decide_eq_true q5; have g6 := of_decide_eq_true q6; first | exact ⟨g1, g2, H, ⟨g3, g4⟩, g5, g6⟩ | assumption | trivial | (refine ⟨?_, ?_⟩ <;> omega) | omega), (form2 w _ _).trans (hB2.mono (form2 w _ _).size)⟩ | exact ⟨_, rfl, fun h => absurd h (by decide), (form2 w _ _).trans (hB2.mono (form2 w _ _).size)⟩
set_option maxRecDepth 20000 in
set_option maxHeartbeats 4000000 in
theorem r5wrong_8_t (op rd a b n : Int) (s : ByteArray) (_hs : s.size ≤ maxLen) (w : World) : Calls Tryd.prog 115 #[.agg #[.int .i64 8, .string s, .int .i64 op, .int .i64 rd, .int .i64 a, .int .i64 b, .int .i64 n], .bool true] w (WrongTo (True) w) := by
  have hto : only5 op rd a b n 0 0 0 0 n = true → rd = 0 := only5_rd
  have HO := Lib.hid (fun W => r5only_any op rd a b n 0 0 0 0 n W)
  generalize only5 op rd a b n 0 0 0 0 n = to at *
  unfold OnlyTo at HO
  have HT := Lib.hid hto
  clear hto
  cases q0 : (s.toList == [])
  · go_enter Tryd.func115, Tryd.ntmps115
    go_wp2_with (first | (go_at_call 137; (with_reducible refine (HO.out _).mono ?_); rintro e w2 ⟨rfl, hB2⟩))
    all_goals go_ret
    all_goals exact ⟨_, rfl, fun h => absurd h (by decide), form2 w _ _⟩
  · cases q1 : to
    · go_enter Tryd.func115, Tryd.ntmps115
      go_wp2_with (first | (go_at_call 137; (with_reducible refine (HO.out _).mono ?_); rintro e w2 ⟨rfl, hB2⟩))
      all_goals go_ret
      all_goals exact ⟨_, rfl, fun h => absurd h (by decide), (form2 w _ _).trans (hB2.mono (form2 w _ _).size)⟩
    · go_enter Tryd.func115, Tryd.ntmps115
      go_wp2_with (first | (go_at_call 137; (with_reducible refine (HO.out _).mono ?_); rintro e w2 ⟨rfl, hB2⟩))
      all_goals go_ret
      all_goals first | exact ⟨_, rfl, fun _ => by ( first | exact ⟨g1, g2, H, ⟨g3, g4⟩, g5, g6⟩ | assumption | trivial | (refine ⟨?_, ?_⟩ <;> omega) | omega), (form2 w _ _).trans (hB2.mono (form2 w _ _).size)⟩ | exact ⟨_, rfl, fun h => absurd h (by decide), (form2 w _ _).trans (hB2.mono (form2 w _ _).size)⟩
set_option maxRecDepth 20000 in
set_option maxHeartbeats 4000000 in
theorem r5wrong_1_d (op rd a b n : Int) (s : ByteArray) (hs : s.size ≤ maxLen) (w : World) : Calls Tryd.prog 115 #[.agg #[.int .i64 1, .string s, .int .i64 op, .int .i64 rd, .int .i64 a, .int .i64 b, .int .i64 n], .bool false] w (WrongTo (True) w) := by
  have HN := Lib.hid (fun W => r5name_any s hs W)
  generalize namedB s = tn at *
  clear hs
  cases q0 : tn
  · go_enter Tryd.func115, Tryd.ntmps115
    go_wp2_with (first | (go_at_call 136; (with_reducible refine (HN.out _).mono ?_); rintro e w' ⟨rfl, rfl⟩))
    all_goals go_ret
    all_goals exact ⟨_, rfl, fun h => absurd h (by decide), form2 w _ _⟩
  · go_enter Tryd.func115, Tryd.ntmps115
    go_wp2_with (first | (go_at_call 136; (with_reducible refine (HN.out _).mono ?_); rintro e w' ⟨rfl, rfl⟩))
    all_goals go_ret
    all_goals first | exact ⟨_, rfl, fun _ => by ( first | exact ⟨g1, g2, H, ⟨g3, g4⟩, g5, g6⟩ | assumption | trivial | (refine ⟨?_, ?_⟩ <;> omega) | omega), form2 w _ _⟩ | exact ⟨_, rfl, fun h => absurd h (by decide), form2 w _ _⟩
set_option maxRecDepth 20000 in
set_option maxHeartbeats 4000000 in
theorem r5wrong_8_d (op rd a b n : Int) (s : ByteArray) (_hs : s.size ≤ maxLen) (w : World) : Calls Tryd.prog 115 #[.agg #[.int .i64 8, .string s, .int .i64 op, .int .i64 rd, .int .i64 a, .int .i64 b, .int .i64 n], .bool false] w (WrongTo (True) w) := by
  have hto : only5 op rd a b n 0 0 0 0 n = true → rd = 0 := only5_rd
  have HO := Lib.hid (fun W => r5only_any op rd a b n 0 0 0 0 n W)
  generalize only5 op rd a b n 0 0 0 0 n = to at *
  unfold OnlyTo at HO
  have HT := Lib.hid hto
  clear hto
  cases q0 : (s.toList == [])
  · go_enter Tryd.func115, Tryd.ntmps115
    go_wp2_with (first | (go_at_call 137; (with_reducible refine (HO.out _).mono ?_); rintro e w2 ⟨rfl, hB2⟩))
    all_goals go_ret
    all_goals exact ⟨_, rfl, fun h => absurd h (by decide), form2 w _ _⟩
  · cases q1 : to
    · go_enter Tryd.func115, Tryd.ntmps115
      go_wp2_with (first | (go_at_call 137; (with_reducible refine (HO.out _).mono ?_); rintro e w2 ⟨rfl, hB2⟩))
      all_goals go_ret
      all_goals exact ⟨_, rfl, fun h => absurd h (by decide), (form2 w _ _).trans (hB2.mono (form2 w _ _).size)⟩
    · go_enter Tryd.func115, Tryd.ntmps115
      go_wp2_with (first | (go_at_call 137; (with_reducible refine (HO.out _).mono ?_); rintro e w2 ⟨rfl, hB2⟩))
      all_goals go_ret
      all_goals first | exact ⟨_, rfl, fun _ => by ( first | exact ⟨g1, g2, H, ⟨g3, g4⟩, g5, g6⟩ | assumption | trivial | (refine ⟨?_, ?_⟩ <;> omega) | omega), (form2 w _ _).trans (hB2.mono (form2 w _ _).size)⟩ | exact ⟨_, rfl, fun h => absurd h (by decide), (form2 w _ _).trans (hB2.mono (form2 w _ _).size)⟩
set_option maxRecDepth 20000 in
set_option maxHeartbeats 4000000 in
theorem r5wrong_9_d (op rd a b n : Int) (s : ByteArray) (_hs : s.size ≤ maxLen) (w : World) : Calls Tryd.prog 115 #[.agg #[.int .i64 9, .string s, .int .i64 op, .int .i64 rd, .int .i64 a, .int .i64 b, .int .i64 n], .bool false] w (WrongTo (0 ≤ n ∧ n ≤ 1048576) w) := by
  have hto : only5 op rd a b n 0 0 0 0 n = true → rd = 0 := only5_rd
  have HO := Lib.hid (fun W => r5only_any op rd a b n 0 0 0 0 n W)
  generalize only5 op rd a b n 0 0 0 0 n = to at *
  unfold OnlyTo at HO
  have HT := Lib.hid hto
  clear hto
  cases q0 : (s.toList == [])
  · go_enter Tryd.func115, Tryd.ntmps115
    go_wp2_with (first | (go_at_call 137; (with_reducible refine (HO.out _).mono ?_); rintro e w2 ⟨rfl, hB2⟩; have hx2 := (hB2.block (w.heap.size + 1) (by rw [World.size_alloc, World.size_alloc]; omega)).trans (heap_new2 w _ _); have y4 := (obj_cell hx2 4).trans rfl; have hl2 := lt_of_block hx2; clear hx2))
    all_goals go_ret
    all_goals exact ⟨_, rfl, fun h => absurd h (by decide), form2 w _ _⟩
  · cases q1 : to
    · go_enter Tryd.func115, Tryd.ntmps115
      go_wp2_with (first | (go_at_call 137; (with_reducible refine (HO.out _).mono ?_); rintro e w2 ⟨rfl, hB2⟩; have hx2 := (hB2.block (w.heap.size + 1) (by rw [World.size_alloc, World.size_alloc]; omega)).trans (heap_new2 w _ _); have y4 := (obj_cell hx2 4).trans rfl; have hl2 := lt_of_block hx2; clear hx2))
      all_goals go_ret
      all_goals exact ⟨_, rfl, fun h => absurd h (by decide), (form2 w _ _).trans (hB2.mono (form2 w _ _).size)⟩
    · cases q2 : decide (0 ≤ n)
      · go_enter Tryd.func115, Tryd.ntmps115
        go_wp2_with (first | (go_at_call 137; (with_reducible refine (HO.out _).mono ?_); rintro e w2 ⟨rfl, hB2⟩; have hx2 := (hB2.block (w.heap.size + 1) (by rw [World.size_alloc, World.size_alloc]; omega)).trans (heap_new2 w _ _); have y4 := (obj_cell hx2 4).trans rfl; have hl2 := lt_of_block hx2; clear hx2))
        all_goals go_ret
        all_goals exact ⟨_, rfl, fun h => absurd h (by decide), (form2 w _ _).trans (hB2.mono (form2 w _ _).size)⟩
      · cases q3 : decide (n ≤ 1048576)
        · go_enter Tryd.func115, Tryd.ntmps115
          go_wp2_with (first | (go_at_call 137; (with_reducible refine (HO.out _).mono ?_); rintro e w2 ⟨rfl, hB2⟩; have hx2 := (hB2.block (w.heap.size + 1) (by rw [World.size_alloc, World.size_alloc]; omega)).trans (heap_new2 w _ _); have y4 := (obj_cell hx2 4).trans rfl; have hl2 := lt_of_block hx2; clear hx2))
          all_goals go_ret
          all_goals exact ⟨_, rfl, fun h => absurd h (by decide), (form2 w _ _).trans (hB2.mono (form2 w _ _).size)⟩
        · go_enter Tryd.func115, Tryd.ntmps115
          go_wp2_with (first | (go_at_call 137; (with_reducible refine (HO.out _).mono ?_); rintro e w2 ⟨rfl, hB2⟩; have hx2 := (hB2.block (w.heap.size + 1) (by rw [World.size_alloc, World.size_alloc]; omega)).trans (heap_new2 w _ _); have y4 := (obj_cell hx2 4).trans rfl; have hl2 := lt_of_block hx2; clear hx2))
          all_goals go_ret
          all_goals first | exact ⟨_, rfl, fun _ => by (have g2 := of_decide_eq_true q2; have g3 := of_decide_eq_true q3; first | exact ⟨g1, g2, H, ⟨g3, g4⟩, g5, g6⟩ | assumption | trivial | (refine ⟨?_, ?_⟩ <;> omega) | omega), (form2 w _ _).trans (hB2.mono (form2 w _ _).size)⟩ | exact ⟨_, rfl, fun h => absurd h (by decide), (form2 w _ _).trans (hB2.mono (form2 w _ _).size)⟩
set_option maxRecDepth 20000 in
set_option maxHeartbeats 4000000 in
theorem r5wrong_9_t (op rd a b n : Int) (s : ByteArray) (_hs : s.size ≤ maxLen) (w : World) : Calls Tryd.prog 115 #[.agg #[.int .i64 9, .string s, .int .i64 op, .int .i64 rd, .int .i64 a, .int .i64 b, .int .i64 n], .bool true] w (WrongTo (0 ≤ n ∧ n ≤ 1048576) w) := by
  have hto : only5 op rd a b n 0 0 0 0 n = true → rd = 0 := only5_rd
  have HO := Lib.hid (fun W => r5only_any op rd a b n 0 0 0 0 n W)
  generalize only5 op rd a b n 0 0 0 0 n = to at *
  unfold OnlyTo at HO
  have HT := Lib.hid hto
  clear hto
  cases q0 : (s.toList == [])
  · go_enter Tryd.func115, Tryd.ntmps115
    go_wp2_with (first | (go_at_call 137; (with_reducible refine (HO.out _).mono ?_); rintro e w2 ⟨rfl, hB2⟩; have hx2 := (hB2.block (w.heap.size + 1) (by rw [World.size_alloc, World.size_alloc]; omega)).trans (heap_new2 w _ _); have y4 := (obj_cell hx2 4).trans rfl; have hl2 := lt_of_block hx2; clear hx2))
    all_goals go_ret
    all_goals exact ⟨_, rfl, fun h => absurd h (by decide), form2 w _ _⟩
  · cases q1 : to
    · go_enter Tryd.func115, Tryd.ntmps115
      go_wp2_with (first | (go_at_call 137; (with_reducible refine (HO.out _).mono ?_); rintro e w2 ⟨rfl, hB2⟩; have hx2 := (hB2.block (w.heap.size + 1) (by rw [World.size_alloc, World.size_alloc]; omega)).trans (heap_new2 w _ _); have y4 := (obj_cell hx2 4).trans rfl; have hl2 := lt_of_block hx2; clear hx2))
      all_goals go_ret
      all_goals exact ⟨_, rfl, fun h => absurd h (by decide), (form2 w _ _).trans (hB2.mono (form2 w _ _).size)⟩
    · cases q2 : decide (0 ≤ n)
      · go_enter Tryd.func115, Tryd.ntmps115
        go_wp2_with (first | (go_at_call 137; (with_reducible refine (HO.out _).mono ?_); rintro e w2 ⟨rfl, hB2⟩; have hx2 := (hB2.block (w.heap.size + 1) (by rw [World.size_alloc, World.size_alloc]; omega)).trans (heap_new2 w _ _); have y4 := (obj_cell hx2 4).trans rfl; have hl2 := lt_of_block hx2; clear hx2))
        all_goals go_ret
        all_goals exact ⟨_, rfl, fun h => absurd h (by decide), (form2 w _ _).trans (hB2.mono (form2 w _ _).size)⟩
      · cases q3 : decide (n ≤ 1048576)
        · go_enter Tryd.func115, Tryd.ntmps115
          go_wp2_with (first | (go_at_call 137; (with_reducible refine (HO.out _).mono ?_); rintro e w2 ⟨rfl, hB2⟩; have hx2 := (hB2.block (w.heap.size + 1) (by rw [World.size_alloc, World.size_alloc]; omega)).trans (heap_new2 w _ _); have y4 := (obj_cell hx2 4).trans rfl; have hl2 := lt_of_block hx2; clear hx2))
          all_goals go_ret
          all_goals exact ⟨_, rfl, fun h => absurd h (by decide), (form2 w _ _).trans (hB2.mono (form2 w _ _).size)⟩
        · have q4t := of_tmod n 4 (of_decide_eq_true q2)
          cases q4 : (n % 4 == 0)
          · go_enter Tryd.func115, Tryd.ntmps115
            go_wp2_with (first | (go_at_call 137; (with_reducible refine (HO.out _).mono ?_); rintro e w2 ⟨rfl, hB2⟩; have hx2 := (hB2.block (w.heap.size + 1) (by rw [World.size_alloc, World.size_alloc]; omega)).trans (heap_new2 w _ _); have y4 := (obj_cell hx2 4).trans rfl; have hl2 := lt_of_block hx2; clear hx2))
            all_goals go_ret
            all_goals exact ⟨_, rfl, fun h => absurd h (by decide), (form2 w _ _).trans (hB2.mono (form2 w _ _).size)⟩
          · go_enter Tryd.func115, Tryd.ntmps115
            go_wp2_with (first | (go_at_call 137; (with_reducible refine (HO.out _).mono ?_); rintro e w2 ⟨rfl, hB2⟩; have hx2 := (hB2.block (w.heap.size + 1) (by rw [World.size_alloc, World.size_alloc]; omega)).trans (heap_new2 w _ _); have y4 := (obj_cell hx2 4).trans rfl; have hl2 := lt_of_block hx2; clear hx2))
            all_goals go_ret
            all_goals first | exact ⟨_, rfl, fun _ => by (have g2 := of_decide_eq_true q2; have g3 := of_decide_eq_true q3;  first | exact ⟨g1, g2, H, ⟨g3, g4⟩, g5, g6⟩ | assumption | trivial | (refine ⟨?_, ?_⟩ <;> omega) | omega), (form2 w _ _).trans (hB2.mono (form2 w _ _).size)⟩ | exact ⟨_, rfl, fun h => absurd h (by decide), (form2 w _ _).trans (hB2.mono (form2 w _ _).size)⟩
set_option maxRecDepth 20000 in
set_option maxHeartbeats 4000000 in
theorem r5wrong_2_t (op rd a b n : Int) (s : ByteArray) (w : World) : Calls Tryd.prog 115 #[.agg #[.int .i64 2, .string s, .int .i64 op, .int .i64 rd, .int .i64 a, .int .i64 b, .int .i64 n], .bool true] w (WrongTo (rightI op rd a b n = true) w) := by
  have HR := Lib.hid (fun W => r1Right_any op rd a b n W)
  cases hr : rightI op rd a b n
  · rw [hr] at HR
    go_enter Tryd.func115, Tryd.ntmps115
    go_wp2_with (go_at_call 14; (with_reducible refine (HR.out _).mono ?_); rintro e w2 ⟨rfl, hB2⟩)
    go_ret
    exact ⟨_, rfl, fun h => absurd h (by decide), (form2 w _ _).trans (hB2.mono (form2 w _ _).size)⟩
  · rw [hr] at HR
    cases q0 : (s.toList == [])
    all_goals
      go_enter Tryd.func115, Tryd.ntmps115
      go_wp2_with (go_at_call 14
                   with_reducible refine (HR.out _).mono ?_
                   rintro e w2 ⟨rfl, hB2⟩
                   have hb0 : ((w.alloc (.cells #[.int .i64 2, .string s, .int .i64 op, .int .i64 rd, .int .i64 a, .int .i64 b, .int .i64 n] 61)).alloc (.cells #[.int .i64 op, .int .i64 rd, .int .i64 a, .int .i64 b, .int .i64 n] 32)).heap[w.heap.size]? = some (.cells #[.int .i64 2, .string s, .int .i64 op, .int .i64 rd, .int .i64 a, .int .i64 b, .int .i64 n] 61 (0, 0)) := obj_alloc (heap_alloc_new w _)
                   have hb2 := (hB2.block w.heap.size (lt_of_block hb0)).trans hb0
                   have x1 := (obj_cell hb2 1).trans rfl
                   have hl2 := lt_of_block hb2
                   clear hb0 hb2)
      all_goals go_ret
      all_goals first | exact ⟨_, rfl, fun _ => (by first | trivial | rfl | exact hr), (form2 w _ _).trans (hB2.mono (form2 w _ _).size)⟩ | exact ⟨_, rfl, fun h => absurd h (by decide), (form2 w _ _).trans (hB2.mono (form2 w _ _).size)⟩
set_option maxRecDepth 20000 in
set_option maxHeartbeats 4000000 in
theorem r5wrong_dull (k op rd a b n : Int) (s : ByteArray) (hk : ¬ (k = 1 ∨ k = 8 ∨ k = 9)) (w : World) : Calls Tryd.prog 115 #[.agg #[.int .i64 k, .string s, .int .i64 op, .int .i64 rd, .int .i64 a, .int .i64 b, .int .i64 n], .bool false] w (WrongTo False w) := by
  have f1 : (k != 1) = true := by simp; omega
  have f8 : (k != 8) = true := by simp; omega
  have f9 : (k != 9) = true := by simp; omega
  clear hk
  go_enter Tryd.func115, Tryd.ntmps115
  go_wp2
  go_ret
  exact ⟨_, rfl, fun h => absurd h (by decide), form2 w _ _⟩
set_option maxRecDepth 20000 in
set_option maxHeartbeats 4000000 in
theorem r5wrong_x (k op rd a b n : Int) (s : ByteArray) (hk : k < 1 ∨ 9 < k) (w : World) : Calls Tryd.prog 115 #[.agg #[.int .i64 k, .string s, .int .i64 op, .int .i64 rd, .int .i64 a, .int .i64 b, .int .i64 n], .bool true] w (WrongTo False w) := by
  have f1 : (k == 1) = false := by simp; omega
  have f2 : (k == 2) = false := by simp; omega
  have f3 : (k == 3) = false := by simp; omega
  have f4 : (k == 4) = false := by simp; omega
  have f5 : (k == 5) = false := by simp; omega
  have f6 : (k == 6) = false := by simp; omega
  have f7 : (k == 7) = false := by simp; omega
  have f8 : (k == 8) = false := by simp; omega
  have f9 : (k == 9) = false := by simp; omega
  clear hk
  go_enter Tryd.func115, Tryd.ntmps115
  go_wp2
  go_ret
  exact ⟨_, rfl, fun h => absurd h (by decide), form2 w _ _⟩
/-- patinaref05.wrong: what an item has that is not wrong. -/
theorem r5wrong_any (x : It) (t : Bool) (hs : x.s.size ≤ maxLen) (w : World) : Calls Tryd.prog 115 #[.agg x.cs, .bool t] w (WrongTo (OkR x ∧ (t = false → x.k = 1 ∨ x.k = 8 ∨ x.k = 9)) w) := by
  obtain ⟨k, s, op, rd, a, b, n⟩ := x
  show Calls Tryd.prog 115 #[.agg #[.int .i64 k, .string s, .int .i64 op, .int .i64 rd, .int .i64 a, .int .i64 b, .int .i64 n], .bool t] w _
  have go : ∀ {P : Prop}, (P → OkR ⟨k, s, op, rd, a, b, n⟩ ∧ (t = false → k = 1 ∨ k = 8 ∨ k = 9)) → Calls Tryd.prog 115 #[.agg #[.int .i64 k, .string s, .int .i64 op, .int .i64 rd, .int .i64 a, .int .i64 b, .int .i64 n], .bool t] w (WrongTo P w) → Calls Tryd.prog 115 #[.agg #[.int .i64 k, .string s, .int .i64 op, .int .i64 rd, .int .i64 a, .int .i64 b, .int .i64 n], .bool t] w (WrongTo (OkR ⟨k, s, op, rd, a, b, n⟩ ∧ (t = false → k = 1 ∨ k = 8 ∨ k = 9)) w) :=
    fun hP h => h.mono fun e w' ⟨z, e1, h1, hB⟩ => ⟨z, e1, fun hz => hP (h1 hz), hB⟩
  cases t
  · by_cases hk : k = 1 ∨ k = 8 ∨ k = 9
    · have ok : (k = 9 → 0 ≤ n ∧ n ≤ 1048576) → OkR ⟨k, s, op, rd, a, b, n⟩ ∧ (false = false → k = 1 ∨ k = 8 ∨ k = 9) := fun h9 => by
        refine ⟨⟨?_, ?_, ?_, ?_, ?_, h9⟩, fun _ => hk⟩ <;> intro h <;> simp only at h <;> omega
      rcases hk with rfl | rfl | rfl
      · exact go (fun _ => ok (by intro h; omega)) (r5wrong_1_d op rd a b n s hs w)
      · exact go (fun _ => ok (by intro h; omega)) (r5wrong_8_d op rd a b n s hs w)
      · exact go (fun h => ok (fun _ => h)) (r5wrong_9_d op rd a b n s hs w)
    · exact go False.elim (r5wrong_dull k op rd a b n s hk w)
  · have ok : ∀ {Q : Prop}, (Q → OkR ⟨k, s, op, rd, a, b, n⟩) → Q → OkR ⟨k, s, op, rd, a, b, n⟩ ∧ (true = false → k = 1 ∨ k = 8 ∨ k = 9) := fun h q => ⟨h q, by intro h; exact absurd h (by decide)⟩
    by_cases hk : k < 1 ∨ 9 < k
    · exact go False.elim (r5wrong_x k op rd a b n s hk w)
    · rcases (show k = 1 ∨ k = 2 ∨ k = 3 ∨ k = 4 ∨ k = 5 ∨ k = 6 ∨ k = 7 ∨ k = 8 ∨ k = 9 by omega) with rfl | rfl | rfl | rfl | rfl | rfl | rfl | rfl | rfl
      · exact go (ok fun h => ⟨fun h0 => by simp only at h0; omega, fun h0 => by simp only at h0; omega, fun h0 => by simp only at h0; omega, fun h0 => by simp only at h0; omega, fun h0 => by simp only at h0; omega, fun h0 => by simp only at h0; omega⟩) (r5wrong_1_t op rd a b n s hs w)
      · exact go (ok fun h => ⟨fun _ => h, fun h0 => by simp only at h0; omega, fun h0 => by simp only at h0; omega, fun h0 => by simp only at h0; omega, fun h0 => by simp only at h0; omega, fun h0 => by simp only at h0; omega⟩) (r5wrong_2_t op rd a b n s w)
      · exact go (ok fun h => ⟨fun h0 => by simp only at h0; omega, fun _ => h, fun h0 => by simp only at h0; omega, fun h0 => by simp only at h0; omega, fun h0 => by simp only at h0; omega, fun h0 => by simp only at h0; omega⟩) (r5wrong_3_t op rd a b n s hs w)
      · exact go (ok fun h => ⟨fun h0 => by simp only at h0; omega, fun h0 => by simp only at h0; omega, fun _ => h, fun h0 => by simp only at h0; omega, fun h0 => by simp only at h0; omega, fun h0 => by simp only at h0; omega⟩) (r5wrong_4_t op rd a b n s hs w)
      · exact go (ok fun h => ⟨fun h0 => by simp only at h0; omega, fun h0 => by simp only at h0; omega, fun h0 => by simp only at h0; omega, fun _ => h, fun h0 => by simp only at h0; omega, fun h0 => by simp only at h0; omega⟩) (r5wrong_5_t op rd a b n s hs w)
      · exact go (ok fun h => ⟨fun h0 => by simp only at h0; omega, fun h0 => by simp only at h0; omega, fun _ => h, fun h0 => by simp only at h0; omega, fun h0 => by simp only at h0; omega, fun h0 => by simp only at h0; omega⟩) (r5wrong_6_t op rd a b n s hs w)
      · exact go (ok fun h => ⟨fun h0 => by simp only at h0; omega, fun h0 => by simp only at h0; omega, fun h0 => by simp only at h0; omega, fun h0 => by simp only at h0; omega, fun _ => h, fun h0 => by simp only at h0; omega⟩) (r5wrong_7_t op rd a b n s hs w)
      · exact go (ok fun h => ⟨fun h0 => by simp only at h0; omega, fun h0 => by simp only at h0; omega, fun h0 => by simp only at h0; omega, fun h0 => by simp only at h0; omega, fun h0 => by simp only at h0; omega, fun h0 => by simp only at h0; omega⟩) (r5wrong_8_t op rd a b n s hs w)
      · exact go (ok fun h => ⟨fun h0 => by simp only at h0; omega, fun h0 => by simp only at h0; omega, fun h0 => by simp only at h0; omega, fun h0 => by simp only at h0; omega, fun h0 => by simp only at h0; omega, fun _ => h⟩) (r5wrong_9_t op rd a b n s hs w)
def IntTo (P : Int → Prop) (w : World) (e : Ending) (w' : World) : Prop := ∃ z : Int, e = .returned (.int .i64 z) ∧ P z ∧ Below w.heap.size w w'
set_option maxRecDepth 20000 in
set_option maxHeartbeats 4000000 in
theorem r5least_any (x : It) (hr : -9223372036854775808 ≤ x.n ∧ x.n < 9223372036854775808) (w : World) : Calls Tryd.prog 81 #[.agg x.cs] w (IntTo (fun z => x.k = 5 ∨ x.k = 6 ∨ x.k = 7 → z = 4) w) := by
  obtain ⟨k, s, op, rd, a, b, n⟩ := x
  show Calls Tryd.prog 81 #[.agg #[.int .i64 k, .string s, .int .i64 op, .int .i64 rd, .int .i64 a, .int .i64 b, .int .i64 n]] w _
  simp only at hr ⊢
  by_cases h3 : k = 3
  · subst h3
    have HL := Lib.hid (fun W => rli_all rd n W hr)
    have hll : (liL rd n).length ≤ 12 := liM_len 6 _ _
    clear hr
    unfold LiTo at HL
    generalize liL rd n = L at *
    go_enter Tryd.func81, Tryd.ntmps81
    go_wp2_with (go_at_call 37; (with_reducible refine (HL.out _).mono ?_); rintro e w2 ⟨v, rfl, hown, hB2⟩; obtain ⟨A, c, rfl, -⟩ := hown.form)
    go_ret
    exact ⟨_, rfl, fun h => by omega, (form1 w _).trans (hB2.mono (form1 w _).size)⟩
  · have f3 : (k == 3) = false := by simpa using h3
    rcases (show k = 1 ∨ k = 2 ∨ k = 5 ∨ k = 6 ∨ k = 7 ∨ k = 9 ∨ (k ≠ 1 ∧ k ≠ 2 ∧ k ≠ 5 ∧ k ≠ 6 ∧ k ≠ 7 ∧ k ≠ 9) by omega) with rfl | rfl | rfl | rfl | rfl | rfl | ⟨h1, h2, h5, h6, h7, h9⟩
    rotate_right 1
    · have f1 : (k == 1) = false := by simpa using h1
      have f2 : (k == 2) = false := by simpa using h2
      have f5 : (k == 5) = false := by simpa using h5
      have f6 : (k == 6) = false := by simpa using h6
      have f7 : (k == 7) = false := by simpa using h7
      have f9 : (k == 9) = false := by simpa using h9
      have hn : ¬ (k = 5 ∨ k = 6 ∨ k = 7) := by omega
      clear h1 h2 h3 h5 h6 h7 h9 hr
      go_enter Tryd.func81, Tryd.ntmps81
      go_wp2
      go_ret
      exact ⟨_, rfl, fun h => (hn h).elim, form1 w _⟩
    all_goals
      clear h3 hr
      go_enter Tryd.func81, Tryd.ntmps81
      go_wp2
      go_ret
      exact ⟨_, rfl, fun h => by first | rfl | omega, form1 w _⟩
def BoolTo (P : Bool → Prop) (w : World) (e : Ending) (w' : World) : Prop := ∃ b : Bool, e = .returned (.bool b) ∧ P b ∧ Below w.heap.size w w'
set_option maxRecDepth 20000 in
set_option maxHeartbeats 4000000 in
theorem r5long_any (x : It) (size : Int) (w : World) : Calls Tryd.prog 85 #[.agg x.cs, .int .i64 size] w (BoolTo (fun b => b = true → refK x.k) w) := by
  obtain ⟨k, s, op, rd, a, b, n⟩ := x
  show Calls Tryd.prog 85 #[.agg #[.int .i64 k, .string s, .int .i64 op, .int .i64 rd, .int .i64 a, .int .i64 b, .int .i64 n], .int .i64 size] w _
  simp only
  by_cases hk : refK k
  · have hk2 : k = 4 ∨ k = 5 ∨ k = 6 ∨ k = 7 := hk
    have HK := Lib.hid hk
    clear hk
    rcases hk2 with rfl | rfl | rfl | rfl
    all_goals
      cases t8 : (size == 8) <;> cases t12 : (size == 12)
      all_goals
        go_enter Tryd.func85, Tryd.ntmps85
        go_wp2
        go_ret
        exact ⟨_, rfl, fun _ => HK.out, form1 w _⟩
  · unfold refK at hk
    have f4 : (k == 4) = false := by simp; omega
    have f5 : (k == 5) = false := by simp; omega
    have f6 : (k == 6) = false := by simp; omega
    have f7 : (k == 7) = false := by simp; omega
    clear hk
    go_enter Tryd.func85, Tryd.ntmps85
    go_wp2
    go_ret
    exact ⟨_, rfl, fun h => absurd h (by decide), form1 w _⟩
set_option maxRecDepth 20000 in
set_option maxHeartbeats 4000000 in
theorem r5refers_any (x : It) (w : World) : Calls Tryd.prog 117 #[.agg x.cs] w (BoolTo (fun b => b = false → ¬ refK x.k) w) := by
  obtain ⟨k, s, op, rd, a, b, n⟩ := x
  show Calls Tryd.prog 117 #[.agg #[.int .i64 k, .string s, .int .i64 op, .int .i64 rd, .int .i64 a, .int .i64 b, .int .i64 n]] w _
  simp only
  by_cases hk : refK k
  · have hk2 : k = 4 ∨ k = 5 ∨ k = 6 ∨ k = 7 := hk
    clear hk
    rcases hk2 with rfl | rfl | rfl | rfl
    all_goals
      go_enter Tryd.func117, Tryd.ntmps117
      go_wp2
      go_ret
      exact ⟨_, rfl, fun h => absurd h (by decide), form1 w _⟩
  · have HK := Lib.hid hk
    unfold refK at hk
    have f4 : (k == 4) = false := by simp; omega
    have f5 : (k == 5) = false := by simp; omega
    have f6 : (k == 6) = false := by simp; omega
    have f7 : (k == 7) = false := by simp; omega
    clear hk
    go_enter Tryd.func117, Tryd.ntmps117
    go_wp2
    go_ret
    exact ⟨_, rfl, fun _ => HK.out, form1 w _⟩
set_option maxHeartbeats 1000000 in
theorem r5near_any (o : Int) (w : World) : Calls Tryd.prog 118 #[.int .i64 o] w fun e w' => ∃ b : Bool, e = .returned (.bool b) ∧ w' = w := by
  cases t1 : decide (-1048576 ≤ o) <;> cases t2 : decide (o ≤ 1048574)
  all_goals
    go_enter Tryd.func118, Tryd.ntmps118
    go_wp2
    go_ret
    exact ⟨_, rfl, rfl⟩
set_option maxHeartbeats 1000000 in
theorem r5turned_any (op : Int) (h : 5 ≤ op ∧ op ≤ 10) (w : World) : Calls Tryd.prog 87 #[.int .i64 op] w fun e w' => ∃ z : Int, e = .returned (.int .i64 z) ∧ (5 ≤ z ∧ z ≤ 10) ∧ w' = w := by
  rcases (show op = 5 ∨ op = 6 ∨ op = 7 ∨ op = 8 ∨ op = 9 ∨ op = 10 by omega) with rfl | rfl | rfl | rfl | rfl | rfl
  all_goals
    clear h
    go_enter Tryd.func87, Tryd.ntmps87
    go_wp2
    go_ret
    exact ⟨_, rfl, by decide, rfl⟩
theorem own_lit2r (w : World) (a : Obj) (i j : In) : OwnI ((w.alloc a).alloc (.cells #[.int .i64 i.op, .int .i64 i.rd, .int .i64 i.a, .int .i64 i.b, .int .i64 i.n, .int .i64 j.op, .int .i64 j.rd, .int .i64 j.a, .int .i64 j.b, .int .i64 j.n] 32)) w.heap.size (.slice (some ⟨w.heap.size + 1, 0, none⟩) 2 2) [i, j] := by
  have h := World.ownsRow_lit (base := w.heap.size) (e := 32) (size := 5) (w.alloc a) #[.int .i64 i.op, .int .i64 i.rd, .int .i64 i.a, .int .i64 i.b, .int .i64 i.n, .int .i64 j.op, .int .i64 j.rd, .int .i64 j.a, .int .i64 j.b, .int .i64 j.n] 2 (by rw [World.size_alloc]; omega) (by decide) rfl
  rw [World.size_alloc] at h
  exact h
def InsTo (w : World) (e : Ending) (w' : World) : Prop := ∃ (v : Value) (l : List In), e = .returned v ∧ OwnI w' w.heap.size v l ∧ l.length ≤ 12 ∧ (∀ i ∈ l, WordOk i) ∧ Below w.heap.size w w'
set_option maxRecDepth 20000 in
set_option maxHeartbeats 4000000 in
theorem r5pair_any (o rd op2 rd2 a2 b2 n2 : Int) (h1 : 0 ≤ rd ∧ rd < 32) (h2 : WordOk ⟨op2, rd2, a2, b2, n2⟩) (w : World) :
    Calls Tryd.prog 86 #[.int .i64 o, .int .i64 rd, .agg #[.int .i64 op2, .int .i64 rd2, .int .i64 a2, .int .i64 b2, .int .i64 n2]] w (InsTo w) := by
  have hok : ∀ h i : Int, ∀ x ∈ [(⟨2, rd, 0, 0, h⟩ : In), ⟨op2, rd2, a2, b2, i⟩], WordOk x := fun h i x hx => by
    simp only [List.mem_cons, List.not_mem_nil, or_false] at hx
    rcases hx with rfl | rfl
    · exact ⟨⟨by show (0 : Int) ≤ 2; decide, by show (2 : Int) < 66; decide⟩, h1, ⟨by show (0 : Int) ≤ 0; decide, by show (0 : Int) < 32; decide⟩, by show (0 : Int) ≤ 0; decide, by show (0 : Int) < 32; decide⟩
    · exact h2
  have HOK := Lib.hid hok
  clear hok h1 h2
  go_enter Tryd.func86, Tryd.ntmps86
  go_wp2
  go_ret
  exact ⟨_, [⟨2, rd, 0, 0, _⟩, ⟨op2, rd2, a2, b2, _⟩], rfl, own_lit2r w _ _ _, by simp, HOK.out _ _, form2 w _ _⟩
end Go.Proofs

/- patinaref05's layout in memory; its functions label, item, far, reaches. -/
namespace Go.Pat
open Go Go.RowKit
/-- the place of a label; -1: none. -/
def labF : List It → ByteArray → Int → Int
  | [], _, _ => -1
  | x :: r, s, n => if x.k = 1 ∧ x.s.toList = s.toList then n else labF r s (n + 1)
theorem labF_drop (l : List It) (s : ByteArray) (k : Nat) (hk : k < l.length) (n : Int) : labF (l.drop k) s n = if l[k].k = 1 ∧ l[k].s.toList = s.toList then n else labF (l.drop (k + 1)) s (n + 1) := by
  rw [List.drop_eq_getElem_cons hk]; rfl
theorem labF_rng (l : List It) (s : ByteArray) (n : Int) : labF l s n = -1 ∨ (n ≤ labF l s n ∧ labF l s n < n + l.length) := by
  induction l generalizing n with
  | nil => exact .inl rfl
  | cons x r ih =>
    unfold labF
    split
    · refine .inr ⟨Int.le_refl _, ?_⟩
      rw [List.length_cons]; omega
    · rw [List.length_cons]
      rcases ih (n + 1) with h | h
      · exact .inl h
      · exact .inr (by omega)
def ucells (l : List Nat) : List Value := l.map fun (n : Nat) => Value.int .u64 (n : Int)
theorem ucells_length (l : List Nat) : (ucells l).length = l.length := List.length_map _
theorem ucells_append (a b : List Nat) : ucells (a ++ b) = ucells a ++ ucells b := List.map_append
theorem ucells_one (l : List Nat) : ∀ u ∈ ucells l, u.oneCell' = true := fun u hu => by
  obtain ⟨z, _, rfl⟩ := List.mem_map.1 hu
  rfl
end Go.Pat
namespace Go.Proofs
open Go Go.RowKit Go.Pat
theorem Tryd_elU64s : ElT Tryd.prog 118 30 (.int .u64 0) 1 8 := ⟨Tryd.underlying118, by kernel_rfl, rfl, by decide⟩
def OwnU (w : World) (base : Nat) (v : Value) (l : List Nat) : Prop := w.ownsRow base 30 1 v l.length (ucells l)
theorem OwnU.form {w : World} {base : Nat} {v : Value} {l : List Nat} (h : OwnU w base v l) : ∃ A c, v = .slice A l.length c ∧ Cs w.heap.size w A (ucells l) := by
  rcases h.2 with ⟨rfl, h0⟩ | ⟨g, cap, cur, rfl, _, hh, hn, hm, hc, ht⟩
  · exact ⟨none, 0, by rw [h0], fun i hi => by rw [ucells_length] at hi; omega⟩
  · exact ⟨_, cap, rfl, Cs.of_own (c := cap) h⟩
theorem OwnU.nil (w : World) (base : Nat) : OwnU w base (.slice none 0 0) [] := ⟨rfl, .inl ⟨rfl, rfl⟩⟩
theorem step_appU {ops : Array Oper} {o : Oper} {a : Act} {w : World} {K : Act → World → Prop} {Q : Exit → Act → World → Prop} {E : Prop} (hgd : o.guard = none) (s x : Operand)
    (ho : o.op = .call { callee := .builtin .append, args := #[s, x], argTypes := #[118, 118] }) (base : Nat) (v : Value) (l : List Nat) (hs : a.eval s = v) (hown : OwnU w base v l)
    (B : Nat) (A : Option Addr) (n c : Nat) (m : List Nat) (hx : a.eval x = .slice A n c) (hn : m.length = n) (hr : Cs B w A (ucells m)) (hlen : l.length + n ≤ 1000000000) (hbase : base ≤ w.heap.size)
    (h : ∀ v' w', OwnU w' base v' (l ++ m) → (∀ W, Below base W w → Below base W w') → (∀ g, g < w.heap.size → v.ownBlock ≠ some g → w'.heap[g]? = w.heap[g]?) → w.heap.size ≤ w'.heap.size → K (a.put o.dst v') w') :
    if Region.wanted o (yielded ops a.tmps) = true then Oper.wp Tryd.prog o a w K Q else E := by
  refine step_app hgd s x 118 ho Tryd_elU64s base v l.length (ucells l) hs hown B A n c (ucells m) hx (by rw [ucells_length, hn, Nat.mul_one]) hr (ucells_one m) (by simp only [maxLen]; omega) (by omega) hbase ?_
  intro v' w' h1 hg hnil hat
  refine h v' w' ?_ (fun W hW => own_below hown hW hg hbase) (fun g hg1 hg2 => hg.block g hg1 (fun e => hg2 e.symm)) hg.size
  unfold OwnU
  rw [List.length_append, hn, ucells_append]
  exact h1
theorem wpList_appU {ops : Array Oper} {rest : List Oper} {o : Oper} {a : Act} {Q : Exit → Act → World → Prop} (w : World) (hgd : o.guard = none) (x y : Operand)
    (ho : o.op = .call { callee := .builtin .append, args := #[x, y], argTypes := #[118, 118] }) (base : Nat) (v : Value) (l : List Nat) (hx : a.eval x = v) (hown : OwnU w base v l)
    (B : Nat) (A : Option Addr) (m c : Nat) (news : List Nat) (hy : a.eval y = .slice A m c) (hm : news.length = m) (hr : Cs B w A (ucells news)) (hlen : l.length + m ≤ 1000000000) (hbase : base ≤ w.heap.size)
    (h : ∀ v' w', OwnU w' base v' (l ++ news) → (∀ W, Below base W w → Below base W w') → (∀ g, g < w.heap.size → v.ownBlock ≠ some g → w'.heap[g]? = w.heap[g]?) → w.heap.size ≤ w'.heap.size → wpList Tryd.prog ops Q rest (a.put o.dst v') w') :
    wpList Tryd.prog ops Q (o :: rest) a w := by
  refine wpList_app w hgd x y 118 ho Tryd_elU64s base v l.length (ucells l) hx hown _ A m c (ucells news) hy (by rw [ucells_length, hm, Nat.mul_one]) hr (ucells_one news) (by simp only [maxLen]; omega) (by omega) hbase ?_
  intro v' w' h1 hg hnil hat
  refine h v' w' ?_ (fun W hW => own_below hown hW hg hbase) (fun g hg1 hg2 => hg.block g hg1 (fun e => hg2 e.symm)) hg.size
  unfold OwnU
  rw [List.length_append, hm, ucells_append]
  exact h1
/-- a layout in memory. -/
structure Ly (B : Nat) (w : World) (p : Nat) (TA : Option Addr) (tc : Nat) (text : List It) (DA : Option Addr) (dc : Nat) (data : List It) (zv av : Value) (S : List Int) (U : List Nat) : Prop where
  str : w.heap[p]? = some (.cells #[.slice TA text.length tc, .slice DA data.length dc, zv, av] 120 (0, 0))
  tx : Cs B w TA (tcells text)
  dt : Cs B w DA (tcells data)
  hp : B ≤ p
  szs : OwnZ w B zv S
  ats : OwnU w B av U
theorem z_at5 {B : Nat} {w : World} {A : Option Addr} {l : List Int} (h : Cs B w A (zcells l)) (k : Nat) (hk : k < l.length) : ∃ b o, A = some ⟨b, o, none⟩ ∧ b < B ∧ w.cell? ⟨b, o + k, none⟩ = some (.int .i64 l[k]) := by
  obtain ⟨b, o, rfl, hb, h0⟩ := h k (by rw [zcells_length]; exact hk)
  simp only [zcells, List.getElem_map] at h0
  exact ⟨b, o, rfl, hb, h0⟩
theorem u_at5 {B : Nat} {w : World} {A : Option Addr} {l : List Nat} (h : Cs B w A (ucells l)) (k : Nat) (hk : k < l.length) : ∃ b o, A = some ⟨b, o, none⟩ ∧ b < B ∧ w.cell? ⟨b, o + k, none⟩ = some (.int .u64 (l[k] : Int)) := by
  obtain ⟨b, o, rfl, hb, h0⟩ := h k (by rw [ucells_length]; exact hk)
  simp only [ucells, List.getElem_map] at h0
  exact ⟨b, o, rfl, hb, h0⟩
section
variable {B : Nat} {w w' : World} {p : Nat} {TA : Option Addr} {tc : Nat} {text : List It} {DA : Option Addr} {dc : Nat} {data : List It} {zv av : Value} {S : List Int} {U : List Nat}
theorem Ly.lt (h : Ly B w p TA tc text DA dc data zv av S U) : p < w.heap.size := lt_of_block h.str
theorem Ly.le (h : Ly B w p TA tc text DA dc data zv av S U) : B ≤ w.heap.size := Nat.le_trans h.hp (Nat.le_of_lt h.lt)
theorem Ly.keep (h : Ly B w p TA tc text DA dc data zv av S U) (hb : Below w.heap.size w w') : Ly B w' p TA tc text DA dc data zv av S U :=
  ⟨(hb.block p h.lt).trans h.str, h.tx.below (hb.mono h.le), h.dt.below (hb.mono h.le), h.hp, owns_below h.szs hb, owns_below h.ats hb⟩
theorem Ly.tx2 (h : Ly B w p TA tc text DA dc data zv av S U) : Cs w.heap.size w TA (tcells text) := h.tx.more h.le
theorem Ly.dt2 (h : Ly B w p TA tc text DA dc data zv av S U) : Cs w.heap.size w DA (tcells data) := h.dt.more h.le
end
section
variable (B : Nat) (w : World) (p : Nat) (TA : Option Addr) (tc : Nat) (text : List It) (DA : Option Addr) (dc : Nat) (data : List It) (zv av : Value) (S : List Int) (U : List Nat)
set_option maxRecDepth 20000 in
set_option maxHeartbeats 4000000 in
theorem r5label_any (hP : Ly B w p TA tc text DA dc data zv av S U) (hn : text.length + data.length ≤ 1000000000000000) (s : ByteArray) :
    Calls Tryd.prog 116 #[.pointer (some ⟨p, 0, none⟩), .string s] w fun e w' => e = .returned (.int .i64 (labF (text ++ data) s 0)) ∧ Below w.heap.size w w' := by
  obtain ⟨v, hv⟩ : ∃ v, v = labF (text ++ data) s 0 := ⟨_, rfl⟩
  rw [← hv]
  have hd0 : labF ((text ++ data).drop 0) s ((0 : Nat) : Int) = v := hv.symm
  have HP := Lib.hid hP
  have c0 := (obj_cell hP.str 0).trans rfl
  have hp0 := hP.lt
  have HV := Lib.hid hd0
  clear hP hv hd0
  go_enter Tryd.func116, Tryd.ntmps116
  go_wp2_with fail
  go_loopw [14] (fun i wr => ∃ k : Nat, k ≤ text.length ∧ i = .int .i64 k ∧ labF ((text ++ data).drop k) s (k : Int) = v ∧ Below w.heap.size w wr) (fun i _ => text.length - (intOf i).toNat)
  case atStart => exact ⟨0, Nat.zero_le _, rfl, HV.out, Below.refl _ _⟩
  case round =>
    obtain ⟨k, hk, rfl, hd, hB⟩ := hrel
    by_cases hlt : k < text.length
    · have t1 : decide ((k : Int) < (text.length : Int)) = true := decide_eq_true (by omega)
      have hku : (k : Int) < (text.length : Int) := by omega
      obtain ⟨b, o, e0, hb, x0, x1, x2, x3, x4, x5, x6⟩ := item_at (HP.out.tx2.below hB) k hlt
      cases e0
      rw [labF_drop _ s k (by simp; omega)] at hd
      simp only [List.getElem_append_left hlt] at hd
      have hsz := hB.size
      generalize text[k].k = v0 at *
      generalize text[k].s = v1 at *
      generalize text[k].op = v2 at *
      generalize text[k].rd = v3 at *
      generalize text[k].a = v4 at *
      generalize text[k].b = v5 at *
      generalize text[k].n = v6 at *
      have hbl : b < wr.heap.size := Nat.lt_of_lt_of_le hb hsz
      have HB := Lib.hid (hB.alloc hB.size (.cells #[.int .i64 v0, .string v1, .int .i64 v2, .int .i64 v3, .int .i64 v4, .int .i64 v5, .int .i64 v6] 61))
      clear hB
      by_cases h1 : v0 = 1
      · have q1 : (v0 == 1) = true := by simpa using h1
        by_cases h2 : v1.toList = s.toList
        · have q2 : (v1.toList == s.toList) = true := by simpa using h2
          rw [if_pos ⟨h1, h2⟩] at hd
          have HD := Lib.hid hd
          clear hd h1 h2
          go_wp2_with fail
          go_ret
          exact ⟨by rw [HD.out]; rfl, HB.out⟩
        · have q2 : (v1.toList == s.toList) = false := by simpa using h2
          rw [if_neg (fun h => h2 h.2)] at hd
          have HD := Lib.hid hd
          clear hd h1 h2
          go_wp2_with fail
          go_roundw
          case rel => exact ⟨k + 1, by omega, by go_num, by rw [← HD.out]; congr 1, HB.out⟩
          case measure => simp [intOf]; omega
      · have q1 : (v0 == 1) = false := by simpa using h1
        rw [if_neg (fun h => h1 h.1)] at hd
        have HD := Lib.hid hd
        clear hd h1
        go_wp2_with fail
        go_roundw
        case rel => exact ⟨k + 1, by omega, by go_num, by rw [← HD.out]; congr 1, HB.out⟩
        case measure => simp [intOf]; omega
    · have t1 : decide ((k : Int) < (text.length : Int)) = false := decide_eq_false (by omega)
      obtain rfl : k = text.length := by omega
      obtain ⟨W7, hW7⟩ : ∃ W7, W7 = wr := ⟨_, rfl⟩
      subst hW7
      have hP7 := HP.out.keep hB
      have c0' := (obj_cell hP7.str 0).trans rfl
      have c1' := (obj_cell hP7.str 1).trans rfl
      have hp7 := hP7.lt
      rw [List.drop_append_of_le_length (Nat.le_refl _), List.drop_length, List.nil_append] at hd
      have HP7 := Lib.hid (And.intro hP7 hB)
      have HD := Lib.hid hd
      clear hP7 hB hd
      go_wp2_with fail
      go_loopw [35] (fun i wr => ∃ k : Nat, k ≤ data.length ∧ i = .int .i64 k ∧ labF (data.drop k) s ((text.length : Int) + (k : Int)) = v ∧ Below W7.heap.size W7 wr) (fun i _ => data.length - (intOf i).toNat)
      case atStart => exact ⟨0, Nat.zero_le _, rfl, by rw [← HD.out]; simp, Below.refl _ _⟩
      case round =>
        obtain ⟨k, hk, rfl, hd, hB⟩ := hrel
        have hBw := HP7.out.2.trans (hB.mono HP7.out.2.size)
        by_cases hlt : k < data.length
        · have t1 : decide ((k : Int) < (data.length : Int)) = true := decide_eq_true (by omega)
          have hku : (k : Int) < (data.length : Int) := by omega
          have hw : wrap64 ((text.length : Int) + (k : Int)) = (text.length : Int) + (k : Int) := by unfold wrap64; omega
          obtain ⟨b, o, e0, hb, x0, x1, x2, x3, x4, x5, x6⟩ := item_at (HP7.out.1.dt2.below hB) k hlt
          cases e0
          have hP8 := (HP7.out.1.keep hB).keep (form1 wr (.cells #[.int .i64 (data[k]).k, .string (data[k]).s, .int .i64 (data[k]).op, .int .i64 (data[k]).rd, .int .i64 (data[k]).a, .int .i64 (data[k]).b, .int .i64 (data[k]).n] 61))
          have c0'' := (obj_cell (HP7.out.1.keep hB).str 0).trans rfl
          have hp8 := (HP7.out.1.keep hB).lt
          rw [labF_drop _ s k hlt] at hd
          have hsz := hB.size
          generalize data[k].k = v0 at *
          generalize data[k].s = v1 at *
          generalize data[k].op = v2 at *
          generalize data[k].rd = v3 at *
          generalize data[k].a = v4 at *
          generalize data[k].b = v5 at *
          generalize data[k].n = v6 at *
          have hbl : b < wr.heap.size := Nat.lt_of_lt_of_le hb hsz
          have HB := Lib.hid (And.intro (hBw.alloc hBw.size (.cells #[.int .i64 v0, .string v1, .int .i64 v2, .int .i64 v3, .int .i64 v4, .int .i64 v5, .int .i64 v6] 61)) (hB.alloc hB.size (.cells #[.int .i64 v0, .string v1, .int .i64 v2, .int .i64 v3, .int .i64 v4, .int .i64 v5, .int .i64 v6] 61)))
          clear hB hBw hP8
          by_cases h1 : v0 = 1
          · have q1 : (v0 == 1) = true := by simpa using h1
            by_cases h2 : v1.toList = s.toList
            · have q2 : (v1.toList == s.toList) = true := by simpa using h2
              rw [if_pos ⟨h1, h2⟩] at hd
              have HD := Lib.hid hd
              clear hd h1 h2
              go_wp2_with fail
              go_ret
              exact ⟨by first | (rw [HD.out]; rfl) | (rw [← HD.out]; rfl), HB.out.1⟩
            · have q2 : (v1.toList == s.toList) = false := by simpa using h2
              rw [if_neg (fun h => h2 h.2)] at hd
              have HD := Lib.hid hd
              clear hd h1 h2
              go_wp2_with fail
              go_roundw
              case rel => exact ⟨k + 1, by omega, by go_num, by rw [← HD.out]; congr 1, HB.out.2⟩
              case measure => simp [intOf]; omega
          · have q1 : (v0 == 1) = false := by simpa using h1
            rw [if_neg (fun h => h1 h.1)] at hd
            have HD := Lib.hid hd
            clear hd h1
            go_wp2_with fail
            go_roundw
            case rel => exact ⟨k + 1, by omega, by go_num, by rw [← HD.out]; congr 1, HB.out.2⟩
            case measure => simp [intOf]; omega
        · have t1 : decide ((k : Int) < (data.length : Int)) = false := decide_eq_false (by omega)
          obtain rfl : k = data.length := by omega
          rw [List.drop_length] at hd
          have HD := Lib.hid hd
          clear hd
          go_wp2_with fail
          go_ret
          exact ⟨by first | (rw [← HD.out]; rfl) | (rw [HD.out]; rfl), hBw⟩
set_option maxRecDepth 20000 in
set_option maxHeartbeats 4000000 in
theorem r5item_text (hP : Ly B w p TA tc text DA dc data zv av S U) (_hl : text.length + data.length ≤ 1000000000000000) (n : Nat) (hn : n < text.length) : Calls Tryd.prog 55 #[.pointer (some ⟨p, 0, none⟩), .int .i64 (n : Int)] w (ItemTo text[n] w) := by
  have hlt := hP.lt
  have c0 := (obj_cell hP.str 0).trans rfl
  obtain ⟨b, o, rfl, hb, x0, x1, x2, x3, x4, x5, x6⟩ := item_at hP.tx2 n hn
  have t1 : decide ((n : Int) < (text.length : Int)) = true := decide_eq_true (by omega)
  have HV := Lib.hid (show text[n].cs = #[.int .i64 text[n].k, .string text[n].s, .int .i64 text[n].op, .int .i64 text[n].rd, .int .i64 text[n].a, .int .i64 text[n].b, .int .i64 text[n].n] from rfl)
  unfold ItemTo
  generalize text[n].cs = V at *
  generalize text[n].k = v0 at *
  generalize text[n].s = v1 at *
  generalize text[n].op = v2 at *
  generalize text[n].rd = v3 at *
  generalize text[n].a = v4 at *
  generalize text[n].b = v5 at *
  generalize text[n].n = v6 at *
  clear hP
  go_enter Tryd.func55, Tryd.ntmps55
  go_wp2
  refine bodyPost_ret (results_cell_row rfl _ _ w.heap.size 61 #[.int .i64 v0, .string v1, .int .i64 v2, .int .i64 v3, .int .i64 v4, .int .i64 v5, .int .i64 v6] (0, 0) _ rfl (heap_alloc_new w _) Tryd.underlying61 rfl Tryd_sizeItem) rfl ⟨by rw [HV.out], form1 w _⟩
set_option maxRecDepth 20000 in
set_option maxHeartbeats 4000000 in
theorem r5item_data (hP : Ly B w p TA tc text DA dc data zv av S U) (hl : text.length + data.length ≤ 1000000000000000) (n : Nat) (hn : text.length ≤ n) (hn2 : n - text.length < data.length) : Calls Tryd.prog 55 #[.pointer (some ⟨p, 0, none⟩), .int .i64 (n : Int)] w (ItemTo (data[n - text.length]) w) := by
  have hlt := hP.lt
  have c0 := (obj_cell hP.str 0).trans rfl
  have c1 := (obj_cell hP.str 1).trans rfl
  obtain ⟨b, o, rfl, hb, x0, x1, x2, x3, x4, x5, x6⟩ := item_at hP.dt2 (n - text.length) hn2
  have t1 : decide ((n : Int) < (text.length : Int)) = false := decide_eq_false (by omega)
  have HV := Lib.hid (show (data[n - text.length]).cs = #[.int .i64 (data[n - text.length]).k, .string (data[n - text.length]).s, .int .i64 (data[n - text.length]).op, .int .i64 (data[n - text.length]).rd, .int .i64 (data[n - text.length]).a, .int .i64 (data[n - text.length]).b, .int .i64 (data[n - text.length]).n] from rfl)
  unfold ItemTo
  generalize (data[n - text.length]).cs = V at *
  generalize (data[n - text.length]).k = v0 at *
  generalize (data[n - text.length]).s = v1 at *
  generalize (data[n - text.length]).op = v2 at *
  generalize (data[n - text.length]).rd = v3 at *
  generalize (data[n - text.length]).a = v4 at *
  generalize (data[n - text.length]).b = v5 at *
  generalize (data[n - text.length]).n = v6 at *
  clear hP
  obtain ⟨m, hm⟩ : ∃ m, n - text.length = m := ⟨_, rfl⟩
  rw [hm] at x0 x1 x2 x3 x4 x5 x6 hn2
  have e1 : IntKind.i64.wrap ((n : Int) - (text.length : Int)) = (m : Int) := by rw [IntKind.wrap_i64]; omega
  have e2 : (n : Int) - (text.length : Int) = (m : Int) := by omega
  clear hm
  go_enter Tryd.func55, Tryd.ntmps55
  go_wp2
  go_region
  all_goals go_wp2
  all_goals refine bodyPost_ret (results_cell_row rfl _ _ w.heap.size 61 #[.int .i64 v0, .string v1, .int .i64 v2, .int .i64 v3, .int .i64 v4, .int .i64 v5, .int .i64 v6] (0, 0) _ rfl (heap_alloc_new w _) Tryd.underlying61 rfl Tryd_sizeItem) rfl ⟨by rw [HV.out], (form1 w _).drew⟩
theorem r5item_any (hP : Ly B w p TA tc text DA dc data zv av S U) (hl : text.length + data.length ≤ 1000000000000000) (n : Nat) (hn : n < (text ++ data).length) : Calls Tryd.prog 55 #[.pointer (some ⟨p, 0, none⟩), .int .i64 (n : Int)] w (ItemTo ((text ++ data)[n]) w) := by
  by_cases h : n < text.length
  · rw [List.getElem_append_left h]
    exact r5item_text B w p TA tc text DA dc data zv av S U hP hl n h
  · rw [List.getElem_append_right (by omega)]
    exact r5item_data B w p TA tc text DA dc data zv av S U hP hl n (by omega) (by rw [List.length_append] at hn; omega)
/-- a number is returned. -/
def Num5 (w : World) (e : Ending) (w' : World) : Prop := ∃ z : Int, e = .returned (.int .i64 z) ∧ Below w.heap.size w w'
set_option maxRecDepth 20000 in
set_option maxHeartbeats 4000000 in
theorem r5far_any (hP : Ly B w p TA tc text DA dc data zv av S U) (hl : text.length + data.length ≤ 1000000000000000) (hU : U.length = text.length + data.length) (n : Nat) (hn : n < text.length) (hlab : 0 ≤ labF (text ++ data) text[n].s 0) (frm : Int) :
    Calls Tryd.prog 84 #[.pointer (some ⟨p, 0, none⟩), .int .i64 (n : Int), .int .u64 frm] w (Num5 w) := by
  have hPd := hP.keep (Below.refl w.heap.size w).drew
  have HL0 := r5label_any B w.drew p TA tc text DA dc data zv av S U hPd hl text[n].s
  obtain ⟨m, hm⟩ : ∃ m : Nat, labF (text ++ data) text[n].s 0 = (m : Int) := ⟨(labF (text ++ data) text[n].s 0).toNat, by omega⟩
  have hmU : m < U.length := by
    rcases labF_rng (text ++ data) text[n].s 0 with h | ⟨_, h⟩
    · omega
    · rw [List.length_append] at h; omega
  rw [hm] at HL0
  obtain ⟨Au, cu, rfl, hu⟩ := hP.ats.form
  obtain ⟨bu, ou, rfl, hbu, u0⟩ := u_at5 hu m hmU
  have hlt := hP.lt
  have c0 := (obj_cell hP.str 0).trans rfl
  have c3 := (obj_cell hP.str 3).trans rfl
  obtain ⟨b, o, rfl, hb, -, x1, -, -, -, -, -⟩ := item_at hP.tx2 n hn
  have hmu : (m : Int) < (U.length : Int) := by omega
  have hnu : (n : Int) < (text.length : Int) := by omega
  have HL := Lib.hid HL0
  have HP := Lib.hid hP
  have hul : U.length ≤ 1000000000000000 := by omega
  generalize text[n].s = v1 at *
  generalize (U[m] : Nat) = um at *
  clear HL0 hPd hm hlab hU hP hu
  go_enter Tryd.func84, Tryd.ntmps84
  go_upto_region 1 with fail
  go_region_law (first
    | (go_simp
       go_at_call 116
       with_reducible refine HL.out.mono ?_
       rintro e w3 ⟨rfl, hB3⟩
       have hst3 := (hB3.block p hlt).trans HP.out.str
       have q3 := (obj_cell hst3 3).trans rfl
       have hp3 := lt_of_block hst3
       have hbu3 : bu < w3.heap.size := Nat.lt_of_lt_of_le hbu hB3.size
       have u3 := (hB3.cell (p := ⟨bu, ou + m, none⟩) hbu).trans u0
       have HB3 := Lib.hid hB3
       clear hst3 hB3))
  all_goals go_wp2
  all_goals go_ret
  all_goals exact ⟨_, rfl, ((Below.refl w.heap.size w).drew).trans (HB3.out.mono (Nat.le_refl _))⟩
/-- what the reference's layout asks of an item's place. -/
def Fnd (text data : List It) (x : It) : Prop := refK x.k → 0 ≤ labF (text ++ data) x.s 0
set_option maxRecDepth 20000 in
set_option maxHeartbeats 4000000 in
theorem r5reaches_any (hP : Ly B w p TA tc text DA dc data zv av S U) (hl : text.length + data.length ≤ 1000000000000000) (hS : S.length = text.length) (hU : U.length = text.length + data.length) (n : Nat) (hn : n < text.length) (hf : Fnd text data text[n]) :
    Calls Tryd.prog 83 #[.pointer (some ⟨p, 0, none⟩), .int .i64 (n : Int)] w
      (BoolTo (fun b => ((text[n]).k = 5 ∨ (text[n]).k = 6 → S[n]'(by omega) = 8 → b = true) ∧ ((text[n]).k = 7 → S[n]'(by omega) = 12 → b = true) ∧ (¬ ((text[n]).k = 5 ∨ (text[n]).k = 6 ∨ (text[n]).k = 7) → b = true)) w) := by
  have hnS : n < S.length := by omega
  have hnU : n < U.length := by omega
  have HF0 := fun (hk : refK (text[n]).k) W (hW : Below w.heap.size w W) (frm : Int) => r5far_any B W p TA tc text DA dc data zv av S U (hP.keep hW) hl hU n hn (hf hk) frm
  obtain ⟨Au, cu, rfl, hu⟩ := hP.ats.form
  obtain ⟨bu, ou, rfl, hbu, u0⟩ := u_at5 hu n hnU
  obtain ⟨Az, cz, rfl, hz⟩ := hP.szs.form
  obtain ⟨bz, oz, rfl, hbz, z0⟩ := z_at5 hz n hnS
  have hlt := hP.lt
  have c0 := (obj_cell hP.str 0).trans rfl
  obtain ⟨b, o, rfl, hb, x0, x1, x2, x3, x4, x5, x6⟩ := item_at hP.tx2 n hn
  have hmu : (n : Int) < (U.length : Int) := by omega
  have hmz : (n : Int) < (S.length : Int) := by omega
  have hnu : (n : Int) < (text.length : Int) := by omega
  have hul : U.length ≤ 1000000000000000 := by omega
  have hzl : S.length ≤ 1000000000000000 := by omega
  have hst := hP.str
  generalize (U[n] : Nat) = un at *
  generalize (S[n] : Int) = sn at *
  generalize text[n].k = v0 at *
  generalize text[n].s = v1 at *
  generalize text[n].op = v2 at *
  generalize text[n].rd = v3 at *
  generalize text[n].a = v4 at *
  generalize text[n].b = v5 at *
  generalize text[n].n = v6 at *
  have hc1 := (obj_cell hst 2).trans rfl
  have hc2 := (obj_cell hst 3).trans rfl
  have HST := Lib.hid hst
  clear hP hf hu hz hst hU hS
  by_cases h57 : v0 = 5 ∨ v0 = 6
  · have HF := Lib.hid (HF0 (by unfold refK; omega))
    have hk2 : (v0 == 5) = true ∨ ((v0 == 5) = false ∧ (v0 == 6) = true) := by rcases h57 with rfl | rfl <;> decide
    have HN := Lib.hid (fun W (o : Int) => r5near_any o W)
    have h7 : ¬ v0 = 7 := by omega
    have HH := Lib.hid (And.intro h57 h7)
    clear HF0 h57 h7
    by_cases h8 : sn = 8
    · have t8 : (sn == 8) = true := by simpa using h8
      rcases hk2 with t5 | ⟨t5, t6⟩
      all_goals
        go_enter Tryd.func83, Tryd.ntmps83
        go_wp2_with fail
        go_ret
        exact ⟨_, rfl, ⟨fun _ _ => rfl, fun _ _ => rfl, fun _ => rfl⟩, form1 w _⟩
    · have t8 : (sn == 8) = false := by simpa using h8
      have H8 := Lib.hid h8
      clear h8
      rcases hk2 with t5 | ⟨t5, t6⟩
      all_goals
        go_enter Tryd.func83, Tryd.ntmps83
        go_wp2_with (first | (go_at_call 84; (with_reducible refine (HF.out _ (form1 w _) _).mono ?_); rintro e w2 ⟨z, rfl, hB2⟩) | (go_at_call 118; (with_reducible refine (HN.out _ _).mono ?_); rintro e w3 ⟨nb, rfl, rfl⟩))
        all_goals go_ret
        all_goals exact ⟨_, rfl, ⟨fun _ h => (H8.out h).elim, fun h => (HH.out.2 h).elim, fun h => (h (by have := HH.out.1; omega)).elim⟩, (form1 w _).trans (hB2.mono (form1 w _).size)⟩
  · have t5 : (v0 == 5) = false := by simp; omega
    have t6 : (v0 == 6) = false := by simp; omega
    by_cases h7 : v0 = 7
    · have t7 : (v0 == 7) = true := by simpa using h7
      have HF := Lib.hid (HF0 (by unfold refK; omega))
      have HN := Lib.hid (fun W (o : Int) => r5near_any o W)
      have HH := Lib.hid (And.intro h57 h7)
      clear HF0 h57 h7
      have key : ∀ w' : World, Below w.heap.size w w' → ∀ bb : Bool, (sn = 12 → bb = true) → BoolTo (fun b => (v0 = 5 ∨ v0 = 6 → sn = 8 → b = true) ∧ (v0 = 7 → sn = 12 → b = true) ∧ (¬ (v0 = 5 ∨ v0 = 6 ∨ v0 = 7) → b = true)) w (.returned (.bool bb)) w' := fun w' h1 bb h2 =>
        ⟨bb, rfl, ⟨fun h => (HH.out.1 h).elim, fun _ h => h2 h, fun h => (h (by have := HH.out.2; omega)).elim⟩, h1⟩
      have HK := Lib.hid key
      clear key
      by_cases h12 : sn = 12
      · have t12 : (sn == 12) = true := by simpa using h12
        have H12 := Lib.hid h12
        clear h12
        go_enter Tryd.func83, Tryd.ntmps83
        go_wp2_with fail
        with_reducible refine Calls.mono (HF.out _ (form1 w _) _) ?_
        rintro e w2 ⟨z, rfl, hB2⟩
        have hB02 := (form1 w (.cells #[.int .i64 v0, .string v1, .int .i64 v2, .int .i64 v3, .int .i64 v4, .int .i64 v5, .int .i64 v6] 61)).trans (hB2.mono (form1 w _).size)
        have hst2 := (hB02.block p hlt).trans HST.out
        have d2 := (obj_cell hst2 2).trans rfl
        have d3 := (obj_cell hst2 3).trans rfl
        have hp2 := lt_of_block hst2
        have z2 := (hB02.cell (p := ⟨bz, oz + n, none⟩) hbz).trans z0
        have u2 := (hB02.cell (p := ⟨bu, ou + n, none⟩) hbu).trans u0
        have hbz2 := Nat.lt_of_lt_of_le hbz hB02.size
        have hbu2 := Nat.lt_of_lt_of_le hbu hB02.size
        have H2 := Lib.hid hB02
        clear hst2 hB2 hB02
        go_wp2_with fail
        go_ret
        exact HK.out _ H2.out _ (fun _ => rfl)
      · have t12 : (sn == 12) = false := by simpa using h12
        have H12 := Lib.hid h12
        clear h12
        by_cases h8 : sn = 8
        · have t8 : (sn == 8) = true := by simpa using h8
          have t4 : (sn == 4) = false := by simp; omega
          clear h8
          go_enter Tryd.func83, Tryd.ntmps83
          go_wp2_with fail
          with_reducible refine Calls.mono (HF.out _ (form1 w _) _) ?_
          rintro e w2 ⟨z, rfl, hB2⟩
          have hB02 := (form1 w (.cells #[.int .i64 v0, .string v1, .int .i64 v2, .int .i64 v3, .int .i64 v4, .int .i64 v5, .int .i64 v6] 61)).trans (hB2.mono (form1 w _).size)
          have hst2 := (hB02.block p hlt).trans HST.out
          have d2 := (obj_cell hst2 2).trans rfl
          have d3 := (obj_cell hst2 3).trans rfl
          have hp2 := lt_of_block hst2
          have z2 := (hB02.cell (p := ⟨bz, oz + n, none⟩) hbz).trans z0
          have u2 := (hB02.cell (p := ⟨bu, ou + n, none⟩) hbu).trans u0
          have hbz2 := Nat.lt_of_lt_of_le hbz hB02.size
          have hbu2 := Nat.lt_of_lt_of_le hbu hB02.size
          have H2 := Lib.hid hB02
          clear hst2 hB2 hB02
          go_wp2_with fail
          with_reducible refine Calls.mono (HF.out _ H2.out _) ?_
          rintro e w4 ⟨z4, rfl, hB4⟩
          have hB04 := H2.out.trans (hB4.mono H2.out.size)
          have hst4 := (hB04.block p hlt).trans HST.out
          have e2 := (obj_cell hst4 2).trans rfl
          have hp4 := lt_of_block hst4
          have z4' := (hB04.cell (p := ⟨bz, oz + n, none⟩) hbz).trans z0
          have hbz4 := Nat.lt_of_lt_of_le hbz hB04.size
          have H4 := Lib.hid hB04
          clear hst4 hB4 hB04
          go_wp2_with (go_at_call 118; (with_reducible refine (HN.out _ _).mono ?_); rintro e w3 ⟨nb, rfl, rfl⟩)
          all_goals go_ret
          all_goals exact HK.out _ H4.out _ (fun h => (H12.out h).elim)
        · have t8 : (sn == 8) = false := by simpa using h8
          by_cases h4 : sn = 4
          · have t4 : (sn == 4) = true := by simpa using h4
            clear h4 h8
            go_enter Tryd.func83, Tryd.ntmps83
            go_wp2_with fail
            with_reducible refine Calls.mono (HF.out _ (form1 w _) _) ?_
            rintro e w2 ⟨z, rfl, hB2⟩
            have hB02 := (form1 w (.cells #[.int .i64 v0, .string v1, .int .i64 v2, .int .i64 v3, .int .i64 v4, .int .i64 v5, .int .i64 v6] 61)).trans (hB2.mono (form1 w _).size)
            have hst2 := (hB02.block p hlt).trans HST.out
            have d2 := (obj_cell hst2 2).trans rfl
            have d3 := (obj_cell hst2 3).trans rfl
            have hp2 := lt_of_block hst2
            have z2 := (hB02.cell (p := ⟨bz, oz + n, none⟩) hbz).trans z0
            have u2 := (hB02.cell (p := ⟨bu, ou + n, none⟩) hbu).trans u0
            have hbz2 := Nat.lt_of_lt_of_le hbz hB02.size
            have hbu2 := Nat.lt_of_lt_of_le hbu hB02.size
            have H2 := Lib.hid hB02
            clear hst2 hB2 hB02
            cases q1 : decide (-4096 ≤ z) <;> cases q2 : decide (z ≤ 4094)
            all_goals go_wp2_with fail
            all_goals go_ret
            all_goals exact HK.out _ H2.out _ (fun h => (H12.out h).elim)
          · have t4 : (sn == 4) = false := by simpa using h4
            clear h4 h8
            go_enter Tryd.func83, Tryd.ntmps83
            go_wp2_with fail
            with_reducible refine Calls.mono (HF.out _ (form1 w _) _) ?_
            rintro e w2 ⟨z, rfl, hB2⟩
            have hB02 := (form1 w (.cells #[.int .i64 v0, .string v1, .int .i64 v2, .int .i64 v3, .int .i64 v4, .int .i64 v5, .int .i64 v6] 61)).trans (hB2.mono (form1 w _).size)
            have hst2 := (hB02.block p hlt).trans HST.out
            have d2 := (obj_cell hst2 2).trans rfl
            have d3 := (obj_cell hst2 3).trans rfl
            have hp2 := lt_of_block hst2
            have z2 := (hB02.cell (p := ⟨bz, oz + n, none⟩) hbz).trans z0
            have u2 := (hB02.cell (p := ⟨bu, ou + n, none⟩) hbu).trans u0
            have hbz2 := Nat.lt_of_lt_of_le hbz hB02.size
            have hbu2 := Nat.lt_of_lt_of_le hbu hB02.size
            have H2 := Lib.hid hB02
            clear hst2 hB2 hB02
            go_wp2_with fail
            go_ret
            exact HK.out _ H2.out _ (fun h => (H12.out h).elim)
    · have t7 : (v0 == 7) = false := by simpa using h7
      have HH := Lib.hid (And.intro h57 h7)
      clear HF0 h57 h7
      go_enter Tryd.func83, Tryd.ntmps83
      go_wp2_with fail
      go_ret
      exact ⟨_, rfl, ⟨fun _ _ => rfl, fun _ _ => rfl, fun _ => rfl⟩, form1 w _⟩
end
end Go.Proofs

/- (*patinaref05.layout).place: addresses of all items, in a slice of the layout's own. -/
namespace Go.Proofs
open Go Go.RowKit Go.Pat
theorem OwnU.cut {w : World} {base : Nat} {v : Value} {l : List Nat} (h : OwnU w base v l) : ∃ A c, v = .slice A l.length c ∧ OwnU w base (.slice A 0 c) [] := by
  rcases h.2 with ⟨rfl, h0⟩ | ⟨g, cap, cur, rfl, hg, hh, hn, hm, hc, ht⟩
  · exact ⟨none, 0, by rw [h0], OwnU.nil w base⟩
  · exact ⟨_, cap, rfl, rfl, .inr ⟨g, cap, cur, rfl, hg, hh, Nat.zero_le _, hm, hc, by simp [ucells]⟩⟩
theorem lit_u (w : World) (z : Nat) : Cs (w.alloc (.cells #[.int .u64 (z : Int)] 30)).heap.size (w.alloc (.cells #[.int .u64 (z : Int)] 30)) (some ⟨w.heap.size, 0, none⟩) (ucells [z]) := fun j hj => by
  have h1 : j < 1 := by simpa [ucells] using hj
  obtain rfl : j = 0 := by omega
  refine ⟨w.heap.size, 0, rfl, by rw [World.size_alloc]; omega, ?_⟩
  rw [cell_of_row _ _ _ _ _ (0, 0) (heap_alloc_new w _)]
  simp [ucells]
section
variable {B : Nat} {w w2 : World} {p : Nat} {TA : Option Addr} {tc : Nat} {text : List It} {DA : Option Addr} {dc : Nat} {data : List It} {zv av : Value} {S : List Int} {U : List Nat}
theorem Ly.apart (h : Ly B w p TA tc text DA dc data zv av S U) {g : Nat} (hz : zv.ownBlock = some g) : av.ownBlock ≠ some g := fun ha => by
  obtain ⟨_, cur, hc⟩ := owns_block h.szs hz
  obtain ⟨_, cur2, hc2⟩ := owns_block h.ats ha
  rw [hc] at hc2
  cases hc2
theorem Ly.apart_p (h : Ly B w p TA tc text DA dc data zv av S U) : av.ownBlock ≠ some p ∧ zv.ownBlock ≠ some p := by
  constructor
  · intro ha
    obtain ⟨_, cur, hc⟩ := owns_block h.ats ha
    rw [h.str] at hc
    cases hc
  · intro ha
    obtain ⟨_, cur, hc⟩ := owns_block h.szs ha
    rw [h.str] at hc
    cases hc
/-- the layout where addresses are written anew. -/
theorem Ly.setAt {v2 : Value} {U2 : List Nat} (h : Ly B w p TA tc text DA dc data zv av S U) (hB : Below B w w2) (hk : ∀ g, g < w.heap.size → av.ownBlock ≠ some g → w2.heap[g]? = w.heap[g]?) (ho : OwnU w2 B v2 U2) :
    Ly B (w2.setCell ⟨p, 3, none⟩ v2) p TA tc text DA dc data zv v2 S U2 ∧ Below B w (w2.setCell ⟨p, 3, none⟩ v2) := by
  have hp := h.lt
  have hpk : w2.heap[p]? = w.heap[p]? := hk p hp h.apart_p.1
  have hstr := hpk.trans h.str
  have hB2 : Below B w (w2.setCell ⟨p, 3, none⟩ v2) := hB.setCell h.hp _
  refine ⟨⟨?_, h.tx.below hB2, h.dt.below hB2, h.hp, ?_, ?_⟩, hB2⟩
  · exact obj_set hstr 3 v2
  · refine owns_keep h.szs fun g hg => ?_
    have hg1 := (owns_block h.szs hg).2
    obtain ⟨cur, hc⟩ := hg1
    rw [Below.heap_setCell _ _ _ _ (fun e => h.apart_p.2 (by rw [hg, e])), hk g (lt_of_block hc) (h.apart hg)]
  · refine owns_keep ho fun g hg => ?_
    obtain ⟨_, cur, hc⟩ := owns_block ho hg
    refine Below.heap_setCell _ _ _ _ fun e => ?_
    have e2 : g = p := e
    subst e2
    rw [hstr] at hc
    cases hc
/-- the layout where a size is written behind the others, or sizes are written anew. -/
theorem Ly.setZ {v2 : Value} {S2 : List Int} (h : Ly B w p TA tc text DA dc data zv av S U) (hB : Below B w w2) (hk : ∀ g, g < w.heap.size → zv.ownBlock ≠ some g → w2.heap[g]? = w.heap[g]?) (ho : OwnZ w2 B v2 S2) :
    Ly B (w2.setCell ⟨p, 2, none⟩ v2) p TA tc text DA dc data v2 av S2 U ∧ Below B w (w2.setCell ⟨p, 2, none⟩ v2) := by
  have hp := h.lt
  have hpk : w2.heap[p]? = w.heap[p]? := hk p hp h.apart_p.2
  have hstr := hpk.trans h.str
  have hB2 : Below B w (w2.setCell ⟨p, 2, none⟩ v2) := hB.setCell h.hp _
  refine ⟨⟨?_, h.tx.below hB2, h.dt.below hB2, h.hp, ?_, ?_⟩, hB2⟩
  · exact obj_set hstr 2 v2
  · refine owns_keep ho fun g hg => ?_
    obtain ⟨_, cur, hc⟩ := owns_block ho hg
    refine Below.heap_setCell _ _ _ _ fun e => ?_
    have e2 : g = p := e
    subst e2
    rw [hstr] at hc
    cases hc
  · refine owns_keep h.ats fun g hg => ?_
    obtain ⟨_, cur, hc⟩ := owns_block h.ats hg
    rw [Below.heap_setCell _ _ _ _ (fun e => h.apart_p.1 (by rw [hg, e])), hk g (lt_of_block hc) (fun hz => h.apart hz hg)]
/-- the layout where one size is written. -/
theorem Ly.set1 {g n cap : Nat} (h : Ly B w p TA tc text DA dc data (.slice (some ⟨g, 0, none⟩) n cap) av S U) (hn : S.length = n) (i : Nat) (c : Int) :
    Ly B (w.setCell ⟨g, i, none⟩ (.int .i64 c)) p TA tc text DA dc data (.slice (some ⟨g, 0, none⟩) n cap) av (S.set i c) U ∧ Below B w (w.setCell ⟨g, i, none⟩ (.int .i64 c)) := by
  have hgp : p ≠ g := fun e => h.apart_p.2 (by rw [← e]; rfl)
  have hga : av.ownBlock ≠ some g := h.apart rfl
  have hgB : B ≤ g := (owns_block h.szs (g := g) rfl).1
  have hB2 : Below B w (w.setCell ⟨g, i, none⟩ (.int .i64 c)) := (Below.refl _ _).setCell hgB _
  refine ⟨⟨(Below.heap_setCell _ _ _ _ hgp).trans h.str, h.tx.below hB2, h.dt.below hB2, h.hp, h.szs.set1 hn i c, ?_⟩, hB2⟩
  exact owns_keep h.ats fun g2 hg2 => Below.heap_setCell _ _ _ _ (fun e => hga (by rw [hg2, e]))
end
section
variable (B : Nat) (w : World) (p : Nat) (TA : Option Addr) (tc : Nat) (text : List It) (DA : Option Addr) (dc : Nat) (data : List It) (zv av : Value) (S : List Int) (U : List Nat)
def PlaceTo (e : Ending) (w' : World) : Prop :=
  e = .returned (.tuple #[]) ∧ Below B w w' ∧ ∃ av' U', Ly B w' p TA tc text DA dc data zv av' S U' ∧ U'.length = text.length + data.length
set_option maxRecDepth 20000 in
set_option maxHeartbeats 8000000 in
theorem r5place_any (hP : Ly B w p TA tc text DA dc data zv av S U) (hl : text.length + data.length ≤ 1048576) (hS : S.length = text.length) (hr : ∀ x ∈ data, -9223372036854775808 ≤ x.n ∧ x.n < 9223372036854775808) (at_ dat : Nat) :
    Calls Tryd.prog 82 #[.pointer (some ⟨p, 0, none⟩), .int .u64 (at_ : Int), .int .u64 (dat : Int)] w (PlaceTo B w p TA tc text DA dc data zv S) := by
  have HR := Lib.hid hr
  obtain ⟨A0, c0, rfl, hcut⟩ := hP.ats.cut
  obtain ⟨hP1, hB1⟩ := hP.setAt (Below.refl B w) (fun _ _ _ => rfl) hcut
  have a0 := (obj_cell hP.str 0).trans rfl
  have a3 := (obj_cell hP.str 3).trans rfl
  have a3f := obj_frozen hP.str 3
  have hp0 := hP.lt
  have HP1 := Lib.hid (And.intro hP1 hB1)
  have HPT := Lib.hid (show ∀ W av' U', Below B w W → Ly B W p TA tc text DA dc data zv av' S U' → U'.length = text.length + data.length → PlaceTo B w p TA tc text DA dc data zv S (.returned (.tuple #[])) W from fun W av' U' h1 h2 h3 => ⟨rfl, h1, av', U', h2, h3⟩)
  generalize PlaceTo B w p TA tc text DA dc data zv S = PP at *
  have HS := Lib.hid hS
  clear hP hP1 hB1 hcut hr hS
  go_enter Tryd.func82, Tryd.ntmps82
  go_wp2_with fail
  go_loopw [1, 22] (fun a i wr => ∃ (k m : Nat) (av' : Value) (U' : List Nat), k ≤ text.length ∧ i = .int .i64 k ∧ a = .int .u64 (m : Int) ∧ Ly B wr p TA tc text DA dc data zv av' S U' ∧ U'.length = k ∧ Below B w wr) (fun _ i _ => text.length - (intOf i).toNat)
  case atStart => exact ⟨0, at_, _, [], Nat.zero_le _, rfl, rfl, HP1.out.1, rfl, HP1.out.2⟩
  case round =>
    obtain ⟨k, m, av', U', hk, rfl, rfl, hPr, hUk, hB⟩ := hrel
    by_cases hlt : k < text.length
    · have t1 : decide ((k : Int) < (text.length : Int)) = true := decide_eq_true (by omega)
      have hkS : k < S.length := by have := HS.out; omega
      have hkz : (k : Int) < (S.length : Int) := by omega
      have hzl : S.length ≤ 1048576 := by have := HS.out; omega
      obtain ⟨Az, cz, rfl, hz⟩ := hPr.szs.form
      obtain ⟨bz, oz, rfl, hbz, z0⟩ := z_at5 hz k hkS
      obtain ⟨Aq, cq, rfl, -⟩ := hPr.ats.form
      have hp1 := hPr.lt
      have b3 := (obj_cell hPr.str 3).trans rfl
      have HP := Lib.hid (And.intro hPr (And.intro hUk hB))
      have hwr : ∀ z : Int, IntKind.u64.wrap z = ((wrN z : Nat) : Int) := fun z => (wrN_is z).symm
      obtain ⟨sk, hsk⟩ : ∃ sk, S[k] = sk := ⟨_, rfl⟩
      rw [hsk] at z0
      have HSK := Lib.hid hsk
      clear hPr hUk hB hz hsk
      go_wp2_with (at_builtin; refine wpList_appU _ rfl _ _ rfl B _ U' rfl (owns_below HP.out.1.ats (form1 wr _)) _ _ 1 1 [m] rfl rfl (lit_u _ _) (by rw [HP.out.2.1]; omega) ?hb ?hk)
      case hb => have := HP.out.1.le; first | omega | (rw [World.size_alloc]; omega)
      case hk =>
        intro v' w1 hown1 hB1 hk1 hs1
        have hs2 : wr.heap.size + 1 ≤ w1.heap.size := by first | exact hs1 | (rw [World.size_alloc] at hs1; exact hs1)
        have hBw1 : Below B wr w1 := hB1 wr ((Below.refl B wr).alloc HP.out.1.le _)
        obtain ⟨hP2, hB2⟩ := HP.out.1.setAt hBw1 (fun g hg hne => by rw [hk1 g (by omega) hne, Below.heap_alloc _ _ g hg]) hown1
        obtain ⟨A1, c1, e1, -⟩ := hown1.form
        rw [show (U' ++ [m]).length = k + 1 by rw [List.length_append, HP.out.2.1]; rfl] at e1
        subst e1
        have hstr1 := (hk1 p (by omega) HP.out.1.apart_p.1).trans ((Below.heap_alloc _ _ p hp1).trans HP.out.1.str)
        have e3f := obj_frozen hstr1 3
        have e3 := (obj_cell hstr1 3).trans rfl
        have hp2 := lt_of_block hstr1
        obtain ⟨W2, hW2⟩ : ∃ W2, W2 = w1.setCell ⟨p, 3, none⟩ (.slice A1 (k + 1) c1) := ⟨_, rfl⟩
        rw [← hW2] at hP2 hB2
        obtain ⟨A2, c2, e2, hz2⟩ := hP2.szs.form
        cases e2
        obtain ⟨bz2, oz2, e2, hbz2, z2⟩ := z_at5 hz2 k hkS
        cases e2
        rw [HSK.out] at z2
        have g2 := (obj_cell hP2.str 2).trans rfl
        have hp3 := hP2.lt
        have HW2 := Lib.hid hW2
        have H2 := Lib.hid (And.intro hP2 (HP.out.2.2.trans (hB2.mono (Nat.le_refl _))))
        clear hW2 hP2 hB2 hz2 hk1 hB1 hown1 hBw1 hs1
        go_upto_region 5 with fail
        rw [← HW2.out]
        go_wp2_with fail
        go_roundw
        case rel => exact ⟨k + 1, _, _, _, by omega, by go_num, rfl, H2.out.1, by rw [List.length_append, HP.out.2.1]; rfl, H2.out.2⟩
        case measure => simp [intOf]; omega
    · have t1 : decide ((k : Int) < (text.length : Int)) = false := decide_eq_false (by omega)
      obtain rfl : k = text.length := by omega
      obtain ⟨W7, hW7⟩ : ∃ W7, W7 = wr := ⟨_, rfl⟩
      subst hW7
      have b1 := (obj_cell hPr.str 1).trans rfl
      have hp1 := hPr.lt
      have HP := Lib.hid (And.intro hPr (And.intro hUk hB))
      clear hPr hUk hB
      go_wp2_with fail
      go_loopw [2, 51] (fun a i wr => ∃ (k m : Nat) (av' : Value) (U' : List Nat), k ≤ data.length ∧ i = .int .i64 k ∧ a = .int .u64 (m : Int) ∧ Ly B wr p TA tc text DA dc data zv av' S U' ∧ U'.length = text.length + k ∧ Below B w wr) (fun _ i _ => data.length - (intOf i).toNat)
      case atStart => exact ⟨0, dat, _, _, Nat.zero_le _, rfl, rfl, HP.out.1, HP.out.2.1, HP.out.2.2⟩
      case round =>
        obtain ⟨k, m, av', U', hk, rfl, rfl, hPr, hUk, hB⟩ := hrel
        by_cases hlt : k < data.length
        · have t1 : decide ((k : Int) < (data.length : Int)) = true := decide_eq_true (by omega)
          have hku : (k : Int) < (data.length : Int) := by omega
          obtain ⟨b, o, e0, hb, x0, x1, x2, x3, x4, x5, x6⟩ := item_at hPr.dt2 k hlt
          cases e0
          have HL0 := fun W => r5least_any data[k] (HR.out _ (List.getElem_mem hlt)) W
          have hcs : (data[k]).cs = #[.int .i64 (data[k]).k, .string (data[k]).s, .int .i64 (data[k]).op, .int .i64 (data[k]).rd, .int .i64 (data[k]).a, .int .i64 (data[k]).b, .int .i64 (data[k]).n] := rfl
          rw [hcs] at HL0
          clear hcs
          obtain ⟨Aq, cq, rfl, -⟩ := hPr.ats.form
          have hwr : ∀ z : Int, IntKind.u64.wrap z = ((wrN z : Nat) : Int) := fun z => (wrN_is z).symm
          unfold IntTo at HL0
          generalize data[k].k = v0 at *
          generalize data[k].s = v1 at *
          generalize data[k].op = v2 at *
          generalize data[k].rd = v3 at *
          generalize data[k].a = v4 at *
          generalize data[k].b = v5 at *
          generalize data[k].n = v6 at *
          have HL := Lib.hid HL0
          obtain ⟨W1, hW1⟩ : ∃ W1, W1 = wr.alloc (.cells #[.int .i64 v0, .string v1, .int .i64 v2, .int .i64 v3, .int .i64 v4, .int .i64 v5, .int .i64 v6] 61) := ⟨_, rfl⟩
          have hBf : Below wr.heap.size wr W1 := by rw [hW1]; exact form1 wr _
          have hbl : W1.heap[wr.heap.size]? = some (.cells #[.int .i64 v0, .string v1, .int .i64 v2, .int .i64 v3, .int .i64 v4, .int .i64 v5, .int .i64 v6] 61 (0, 0)) := by rw [hW1]; exact heap_alloc_new wr _
          have hP1 := hPr.keep hBf
          have hp1 := hP1.lt
          have hWl := lt_of_block hbl
          have b3 := (obj_cell hP1.str 3).trans rfl
          have HW1 := Lib.hid hW1
          have HP := Lib.hid (And.intro hP1 (And.intro hUk (And.intro (hB.trans (hBf.mono (hPr.le))) hbl)))
          clear hPr hUk hB hP1 hBf hW1 HL0 hbl
          go_upto_region 10 with fail
          rw [← HW1.out]
          go_wp2_with (at_builtin; refine wpList_appU _ rfl _ _ rfl B _ U' rfl (owns_below HP.out.1.ats (form1 W1 _)) _ _ 1 1 [m] rfl rfl (lit_u _ _) (by rw [HP.out.2.1]; omega) ?hb ?hk)
          case hb => have := HP.out.1.le; first | omega | (rw [World.size_alloc]; omega)
          case hk =>
            intro v' w1 hown1 hB1 hk1 hs1
            have hs2 : W1.heap.size + 1 ≤ w1.heap.size := by first | exact hs1 | (rw [World.size_alloc] at hs1; exact hs1)
            have hBw1 : Below B W1 w1 := hB1 W1 ((Below.refl B W1).alloc HP.out.1.le _)
            obtain ⟨hP2, hB2⟩ := HP.out.1.setAt hBw1 (fun g hg hne => by rw [hk1 g (by first | omega | (rw [World.size_alloc]; omega)) hne, Below.heap_alloc _ _ g hg]) hown1
            obtain ⟨A1, c1, e1, -⟩ := hown1.form
            rw [show (U' ++ [m]).length = text.length + (k + 1) by rw [List.length_append, HP.out.2.1]; simp; omega] at e1
            subst e1
            have hstr1 := (hk1 p (by first | omega | (rw [World.size_alloc]; omega)) HP.out.1.apart_p.1).trans ((Below.heap_alloc _ _ p hp1).trans HP.out.1.str)
            have hpx : p ≠ wr.heap.size := fun e => by
              have := HP.out.1.str
              rw [e, HP.out.2.2.2] at this
              cases this
            have hbl1 := (hk1 wr.heap.size (by first | omega | (rw [World.size_alloc]; omega)) (fun e => by
              obtain ⟨_, cur, hc⟩ := owns_block HP.out.1.ats e
              rw [HP.out.2.2.2] at hc
              cases hc)).trans ((Below.heap_alloc _ _ _ hWl).trans HP.out.2.2.2)
            have e3f := obj_frozen hstr1 3
            have e3 := (obj_cell hstr1 3).trans rfl
            have hp2 := lt_of_block hstr1
            obtain ⟨W2, hW2⟩ : ∃ W2, W2 = w1.setCell ⟨p, 3, none⟩ (.slice A1 (text.length + (k + 1)) c1) := ⟨_, rfl⟩
            rw [← hW2] at hP2 hB2
            have hbl2 : W2.heap[wr.heap.size]? = some (.cells #[.int .i64 v0, .string v1, .int .i64 v2, .int .i64 v3, .int .i64 v4, .int .i64 v5, .int .i64 v6] 61 (0, 0)) := by rw [hW2, Below.heap_setCell _ _ _ _ (fun e => hpx e.symm)]; exact hbl1
            have y0 := (obj_cell hbl2 0).trans rfl
            have y1 := (obj_cell hbl2 1).trans rfl
            have y2 := (obj_cell hbl2 2).trans rfl
            have y3 := (obj_cell hbl2 3).trans rfl
            have y4 := (obj_cell hbl2 4).trans rfl
            have y5 := (obj_cell hbl2 5).trans rfl
            have y6 := (obj_cell hbl2 6).trans rfl
            have hl2 := lt_of_block hbl2
            have HW2 := Lib.hid hW2
            have H2 := Lib.hid (And.intro hP2 (HP.out.2.2.1.trans (hB2.mono (Nat.le_refl _))))
            clear hW2 hP2 hB2 hk1 hB1 hown1 hBw1 hs1 hbl1 hbl2
            go_upto_region 11 with fail
            rw [← HW2.out]
            go_wp2_with (go_at_call 81; (with_reducible refine (HL.out _).mono ?_); rintro e w3 ⟨z, rfl, -, hB3⟩)
            go_roundw
            case rel => exact ⟨k + 1, _, _, _, by omega, by go_num, rfl, H2.out.1.keep hB3, by rw [List.length_append, HP.out.2.1]; simp; omega, H2.out.2.trans (hB3.mono H2.out.1.le)⟩
            case measure => simp [intOf]; omega
        · have t1 : decide ((k : Int) < (data.length : Int)) = false := decide_eq_false (by omega)
          obtain rfl : k = data.length := by omega
          have HE := Lib.hid (And.intro hPr (And.intro hUk hB))
          clear hPr hUk hB
          go_wp2_with fail
          go_end0
          exact HPT.out _ _ _ HE.out.2.2 HE.out.1 HE.out.2.1
end
end Go.Proofs

/- (*patinaref05.layout).checked: items that are right, with their labels. -/
namespace Go.Pat
open Go Go.RowKit Go.Proofs
/-- what is told where nothing is wrong. -/
structure Chk (text data : List It) : Prop where
  len : text.length + data.length ≤ 1048576
  ok : ∀ x ∈ text ++ data, OkR x
  fnd : ∀ x ∈ text ++ data, Fnd text data x
theorem take_one {P : It → Prop} {l : List It} {k : Nat} (hk : k < l.length) (h : ∀ x ∈ l.take k, P x) (h1 : P l[k]) : ∀ x ∈ l.take (k + 1), P x := fun x hx => by
  rw [List.take_add_one, List.getElem?_eq_getElem hk] at hx
  rcases List.mem_append.1 hx with h2 | h2
  · exact h x h2
  · simp at h2
    subst h2
    exact h1
end Go.Pat
namespace Go.Proofs
open Go Go.RowKit Go.Pat
section
variable (B : Nat) (w : World) (p : Nat) (TA : Option Addr) (tc : Nat) (text : List It) (DA : Option Addr) (dc : Nat) (data : List It) (zv av : Value) (S : List Int) (U : List Nat)
def ChkTo (e : Ending) (w' : World) : Prop := ∃ z i : Int, e = .returned (.tuple #[.int .i64 z, .int .i64 i]) ∧ (z = 0 → Chk text data) ∧ Below w.heap.size w w'
set_option maxRecDepth 20000 in
set_option maxHeartbeats 8000000 in
theorem r5checked_out (at_ dat : Nat) (h : at_ % 4 ≠ 0 ∨ dat % 8 ≠ 0 ∨ 1099511627776 < at_ ∨ 1099511627776 < dat) :
    Calls Tryd.prog 80 #[.pointer (some ⟨p, 0, none⟩), .int .u64 (at_ : Int), .int .u64 (dat : Int)] w (ChkTo w text data) := by
  by_cases h1 : at_ % 4 = 0
  · have t1 : ((at_ : Int) % 4 != 0) = false := by simp; omega
    by_cases h2 : dat % 8 = 0
    · have t2 : ((dat : Int) % 8 != 0) = false := by simp; omega
      by_cases h3 : 1099511627776 < at_
      · have t3 : decide ((1099511627776 : Int) < (at_ : Int)) = true := decide_eq_true (by omega)
        clear h h1 h2 h3
        go_enter Tryd.func80, Tryd.ntmps80
        go_wp2_with fail
        go_ret2
        exact ⟨_, _, rfl, fun h => absurd h (by decide), Below.refl _ _⟩
      · have t3 : decide ((1099511627776 : Int) < (at_ : Int)) = false := decide_eq_false (by omega)
        have t4 : decide ((1099511627776 : Int) < (dat : Int)) = true := decide_eq_true (by omega)
        clear h h1 h2 h3
        go_enter Tryd.func80, Tryd.ntmps80
        go_wp2_with fail
        go_ret2
        exact ⟨_, _, rfl, fun h => absurd h (by decide), Below.refl _ _⟩
    · have t2 : ((dat : Int) % 8 != 0) = true := by simp; omega
      clear h h1 h2
      go_enter Tryd.func80, Tryd.ntmps80
      go_wp2_with fail
      go_ret2
      exact ⟨_, _, rfl, fun h => absurd h (by decide), Below.refl _ _⟩
  · have t1 : ((at_ : Int) % 4 != 0) = true := by simp; omega
    clear h h1
    go_enter Tryd.func80, Tryd.ntmps80
    go_wp2_with fail
    go_ret2
    exact ⟨_, _, rfl, fun h => absurd h (by decide), Below.refl _ _⟩
set_option maxRecDepth 20000 in
set_option maxHeartbeats 8000000 in
theorem r5checked_in (hP : Ly B w p TA tc text DA dc data zv av S U) (hl : text.length + data.length ≤ 1000000000000000) (hns : ∀ x ∈ text ++ data, x.s.size ≤ maxLen) (at_ dat : Nat) (h1 : at_ % 4 = 0) (h2 : dat % 8 = 0) (h3 : at_ ≤ 1099511627776) (h4 : dat ≤ 1099511627776) :
    Calls Tryd.prog 80 #[.pointer (some ⟨p, 0, none⟩), .int .u64 (at_ : Int), .int .u64 (dat : Int)] w (ChkTo w text data) := by
  have t1 : ((at_ : Int) % 4 != 0) = false := by simp; omega
  have t2 : ((dat : Int) % 8 != 0) = false := by simp; omega
  have t3 : decide ((1099511627776 : Int) < (at_ : Int)) = false := decide_eq_false (by omega)
  have t4 : decide ((1099511627776 : Int) < (dat : Int)) = false := decide_eq_false (by omega)
  have hw : wrap64 ((text.length : Int) + (data.length : Int)) = (text.length : Int) + (data.length : Int) := by unfold wrap64; omega
  have hw2 : IntKind.i64.wrap ((text.length : Int) + (data.length : Int)) = (text.length : Int) + (data.length : Int) := by rw [IntKind.wrap_i64]; omega
  have c0 := (obj_cell hP.str 0).trans rfl
  have c1 := (obj_cell hP.str 1).trans rfl
  have hp0 := hP.lt
  have HP := Lib.hid hP
  have HN := Lib.hid hns
  clear hP hns h1 h2 h3 h4
  by_cases h5 : 1048576 < text.length + data.length
  · have t5 : decide ((1048576 : Int) < (text.length : Int) + (data.length : Int)) = true := decide_eq_true (by omega)
    go_enter Tryd.func80, Tryd.ntmps80
    go_wp2_with fail
    go_quiet (fail)
    go_wp2_with fail
    go_ret2
    exact ⟨_, _, rfl, fun h => absurd h (by decide), bdrewN (Below.refl _ _) _⟩
  · have t5 : decide ((1048576 : Int) < (text.length : Int) + (data.length : Int)) = false := decide_eq_false (by omega)
    obtain ⟨N, hN⟩ : ∃ N, N = text.length + data.length := ⟨_, rfl⟩
    have hNl : N ≤ 1048576 := by omega
    have hNi : (text.length : Int) + (data.length : Int) = (N : Int) := by omega
    have HNN := Lib.hid (show (text ++ data).length = N by rw [List.length_append]; exact hN.symm)
    have HN5 := Lib.hid hN
    rw [hNi] at hw hw2 t5
    have HNi := Lib.hid hNi
    clear hN h5
    have HX := Lib.hid (show ∀ z i : Int, z ≠ 0 → ∀ W, Below w.heap.size w W → ChkTo w text data (.returned (.tuple #[.int .i64 z, .int .i64 i])) W from fun z i hz W hW => ⟨z, i, rfl, fun h => (hz h).elim, hW⟩)
    have HX0 := Lib.hid (show (∀ x ∈ text ++ data, OkR x) → (∀ x ∈ text ++ data, Fnd text data x) → ∀ W, Below w.heap.size w W → ChkTo w text data (.returned (.tuple #[.int .i64 0, .int .i64 0])) W from fun h1 h2 W hW => ⟨0, 0, rfl, fun _ => ⟨by have := HN5.out; omega, h1, h2⟩, hW⟩)
    generalize ChkTo w text data = PP at *
    go_enter Tryd.func80, Tryd.ntmps80
    go_wp2_with fail
    go_quiet (fail)
    go_wp2_with fail
    go_loopw [9] (fun i wr => ∃ (k : Nat), k ≤ N ∧ i = .int .i64 k ∧ (∀ x ∈ (text ++ data).take k, OkR x) ∧ Below w.heap.size w wr) (fun i _ => N - (intOf i).toNat)
    case atStart => exact ⟨0, Nat.zero_le _, rfl, fun x hx => (by simp at hx), bdrewN (Below.refl _ _) _⟩
    case round =>
      obtain ⟨k, hk, rfl, hok, hB⟩ := hrel
      by_cases hlt : k < N
      · have t6 : decide ((k : Int) < (N : Int)) = true := decide_eq_true (by omega)
        have hkl : k < (text ++ data).length := by rw [HNN.out]; exact hlt
        have hPr := HP.out.keep hB
        have HI0 := fun W (hW : Below w.heap.size w W) => r5item_any B W p TA tc text DA dc data zv av S U (HP.out.keep hW) hl k hkl
        have HWr0 := fun (t : Bool) W => r5wrong_any (text ++ data)[k] t (HN.out _ (List.getElem_mem hkl)) W
        have HLb0 := fun W (hW : Below w.heap.size w W) => r5label_any B W p TA tc text DA dc data zv av S U (HP.out.keep hW) hl (text ++ data)[k].s
        have HTK := Lib.hid (show OkR (text ++ data)[k] → ∀ x ∈ (text ++ data).take (k + 1), OkR x from fun h => take_one hkl hok h)
        obtain ⟨x, hx⟩ : ∃ x, (text ++ data)[k] = x := ⟨_, rfl⟩
        rw [hx] at HI0 HWr0 HLb0 HTK
        obtain ⟨v0, v1, v2, v3, v4, v5, v6⟩ := x
        have HI := Lib.hid (show ∀ W, Below w.heap.size w W → Calls Tryd.prog 55 #[.pointer (some ⟨p, 0, none⟩), .int .i64 (k : Int)] W (fun e w' => e = .returned (.agg #[.int .i64 v0, .string v1, .int .i64 v2, .int .i64 v3, .int .i64 v4, .int .i64 v5, .int .i64 v6]) ∧ Below W.heap.size W w') from HI0)
        have HWr := Lib.hid (show ∀ (t : Bool) W, Calls Tryd.prog 115 #[.agg #[.int .i64 v0, .string v1, .int .i64 v2, .int .i64 v3, .int .i64 v4, .int .i64 v5, .int .i64 v6], .bool t] W (WrongTo (OkR ⟨v0, v1, v2, v3, v4, v5, v6⟩ ∧ (t = false → v0 = 1 ∨ v0 = 8 ∨ v0 = 9)) W) from HWr0)
        have HLb := Lib.hid (show ∀ W, Below w.heap.size w W → Calls Tryd.prog 116 #[.pointer (some ⟨p, 0, none⟩), .string v1] W (fun e w' => e = .returned (.int .i64 (labF (text ++ data) v1 0)) ∧ Below W.heap.size W w') from HLb0)
        unfold WrongTo at HWr
        generalize labF (text ++ data) v1 0 = lb at *
        have HB := Lib.hid hB
        have hk1 := hPr.lt
        clear hB hPr HI0 HWr0 HLb0 hx hkl hok
        obtain ⟨tb, htb⟩ : ∃ tb, decide (k < text.length) = tb := ⟨_, rfl⟩
        go_wp2_with (go_at_call 55
                     with_reducible refine (HI.out _ HB.out).mono ?_
                     rintro e w2 ⟨rfl, hB2⟩
                     have H2 := Lib.hid (HB.out.trans (hB2.mono HB.out.size))
                     clear hB2)
        obtain ⟨W1, hW1⟩ : ∃ W1, W1 = w2.alloc (.cells #[.int .i64 v0, .string v1, .int .i64 v2, .int .i64 v3, .int .i64 v4, .int .i64 v5, .int .i64 v6] 61) := ⟨_, rfl⟩
        have hB1 : Below w.heap.size w W1 := by rw [hW1]; exact H2.out.alloc H2.out.size _
        have hbl : W1.heap[w2.heap.size]? = some (.cells #[.int .i64 v0, .string v1, .int .i64 v2, .int .i64 v3, .int .i64 v4, .int .i64 v5, .int .i64 v6] 61 (0, 0)) := by rw [hW1]; exact heap_alloc_new w2 _
        have hst := (HP.out.keep hB1).str
        have q0 := (obj_cell hst 0).trans rfl
        have hp1 := lt_of_block hst
        have y0 := (obj_cell hbl 0).trans rfl
        have y1 := (obj_cell hbl 1).trans rfl
        have y2 := (obj_cell hbl 2).trans rfl
        have y3 := (obj_cell hbl 3).trans rfl
        have y4 := (obj_cell hbl 4).trans rfl
        have y5 := (obj_cell hbl 5).trans rfl
        have y6 := (obj_cell hbl 6).trans rfl
        have hl1 := lt_of_block hbl
        have HWd := Lib.hid (HWr.out tb W1.drew)
        have H1 := Lib.hid (And.intro hB1 hbl)
        rw [← hW1]
        clear hW1 hB1 hbl hst
        go_still_tail 8, (by kernel_rfl)
        go_wp2_with (first
          | (go_at_call 115
             with_reducible refine HWd.out.mono ?_
             rintro e w3 ⟨z, rfl, hz, hB3⟩
             have hB03 := H1.out.1.drew.trans (hB3.mono H1.out.1.drew.size)
             have hbl3 := (hB3.block w2.heap.size hl1).trans H1.out.2
             have u0 := (obj_cell hbl3 0).trans rfl
             have u1 := (obj_cell hbl3 1).trans rfl
             have hl3 := lt_of_block hbl3
             have H3 := Lib.hid (And.intro hz hB03)
             clear hz hB3 hB03 hbl3)
          | (go_at_call 116
             with_reducible refine (HLb.out _ H3.out.2).mono ?_
             rintro e w4 ⟨rfl, hB4⟩
             have H4 := Lib.hid (H3.out.2.trans (hB4.mono H3.out.2.size))
             clear hB4))
        all_goals first
          | (go_roundw
             case rel => exact ⟨k + 1, by omega, by go_num, HTK.out (H3.out.1 (by simpa using ‹(z != 0) = false›)).1, by first | exact H4.out | exact H3.out.2⟩
             case measure => simp [intOf]; omega)
          | exact HX.out _ _ (by first | decide | simpa using ‹(z != 0) = true›) _ (by first | exact H4.out | exact H3.out.2)
      · have t6 : decide ((k : Int) < (N : Int)) = false := decide_eq_false (by omega)
        obtain rfl : k = N := by omega
        obtain ⟨W7, hW7⟩ : ∃ W7, W7 = wr := ⟨_, rfl⟩
        subst hW7
        have HOK := Lib.hid (show ∀ x ∈ text ++ data, OkR x from by rw [List.take_of_length_le (by rw [HNN.out]; exact Nat.le_refl _)] at hok; exact hok)
        have HB7 := Lib.hid hB
        clear hok hB
        go_wp2_with fail
        go_loopw [12] (fun i wr => ∃ (j : Nat), j ≤ k ∧ i = .int .i64 j ∧ (∀ x ∈ (text ++ data).take j, Fnd text data x) ∧ Below w.heap.size w wr) (fun i _ => k - (intOf i).toNat)
        case atStart => exact ⟨0, Nat.zero_le _, rfl, fun x hx => (by simp at hx), HB7.out⟩
        case round =>
          obtain ⟨j, hj, rfl, hok, hB⟩ := hrel
          by_cases hlt : j < k
          · have t6 : decide ((j : Int) < (k : Int)) = true := decide_eq_true (by omega)
            have hkl : j < (text ++ data).length := by rw [HNN.out]; exact hlt
            have HI0 := fun W (hW : Below w.heap.size w W) => r5item_any B W p TA tc text DA dc data zv av S U (HP.out.keep hW) hl j hkl
            have HRf0 := fun W => r5refers_any (text ++ data)[j] W
            have HLb0 := fun W (hW : Below w.heap.size w W) => r5label_any B W p TA tc text DA dc data zv av S U (HP.out.keep hW) hl (text ++ data)[j].s
            have HTK := Lib.hid (show (refK (text ++ data)[j].k → 0 ≤ labF (text ++ data) (text ++ data)[j].s 0) → ∀ x ∈ (text ++ data).take (j + 1), Fnd text data x from fun h => take_one hkl hok h)
            obtain ⟨x, hx⟩ : ∃ x, (text ++ data)[j] = x := ⟨_, rfl⟩
            rw [hx] at HI0 HRf0 HLb0 HTK
            obtain ⟨v0, v1, v2, v3, v4, v5, v6⟩ := x
            have HI := Lib.hid (show ∀ W, Below w.heap.size w W → Calls Tryd.prog 55 #[.pointer (some ⟨p, 0, none⟩), .int .i64 (j : Int)] W (fun e w' => e = .returned (.agg #[.int .i64 v0, .string v1, .int .i64 v2, .int .i64 v3, .int .i64 v4, .int .i64 v5, .int .i64 v6]) ∧ Below W.heap.size W w') from HI0)
            have HRf := Lib.hid (show ∀ W, Calls Tryd.prog 117 #[.agg #[.int .i64 v0, .string v1, .int .i64 v2, .int .i64 v3, .int .i64 v4, .int .i64 v5, .int .i64 v6]] W (BoolTo (fun b => b = false → ¬ refK v0) W) from HRf0)
            have HLb := Lib.hid (show ∀ W, Below w.heap.size w W → Calls Tryd.prog 116 #[.pointer (some ⟨p, 0, none⟩), .string v1] W (fun e w' => e = .returned (.int .i64 (labF (text ++ data) v1 0)) ∧ Below W.heap.size W w') from HLb0)
            simp only at HTK
            unfold BoolTo at HRf
            generalize labF (text ++ data) v1 0 = lb at *
            have HB := Lib.hid hB
            clear hB HI0 HRf0 HLb0 hx hkl hok
            have hfd : ∀ W : World, (Instr.field 61 (.agg #[.int .i64 v0, .string v1, .int .i64 v2, .int .i64 v3, .int .i64 v4, .int .i64 v5, .int .i64 v6]) 1).run Tryd.prog W = .ok (.string v1) W := fun _ => by kernel_rfl
            go_wp2_with fail
            with_reducible refine Calls.mono (HI.out _ HB.out) ?_
            rintro e w2 ⟨rfl, hB2⟩
            have H2 := Lib.hid (HB.out.trans (hB2.mono HB.out.size))
            clear hB2
            go_wp2_with fail
            with_reducible refine Calls.mono (HRf.out _) ?_
            rintro e w3 ⟨rb, rfl, hrb, hB3⟩
            have H3 := Lib.hid (H2.out.trans (hB3.mono H2.out.size))
            clear hB3
            cases rb
            · have HR := Lib.hid (hrb rfl)
              clear hrb
              go_wp2_with fail
              go_roundw
              case rel => exact ⟨j + 1, by omega, by go_num, HTK.out (fun h => (HR.out h).elim), H3.out⟩
              case measure => simp [intOf]; omega
            · clear hrb
              go_wp2_with fail
              with_reducible refine Calls.mono (HI.out _ H3.out) ?_
              rintro e w4 ⟨rfl, hB4⟩
              have H4 := Lib.hid (H3.out.trans (hB4.mono H3.out.size))
              clear hB4
              go_wp2_with fail
              with_reducible refine Calls.mono (HLb.out _ H4.out) ?_
              rintro e w5 ⟨rfl, hB5⟩
              have H5 := Lib.hid (H4.out.trans (hB5.mono H4.out.size))
              clear hB5
              by_cases hlb : lb < 0
              · have t7 : decide (lb < 0) = true := decide_eq_true hlb
                clear hlb
                go_wp2_with fail
                exact HX.out _ _ (by decide) _ H5.out
              · have t7 : decide (lb < 0) = false := decide_eq_false hlb
                have HLN := Lib.hid hlb
                clear hlb
                go_wp2_with fail
                go_roundw
                case rel => exact ⟨j + 1, by omega, by go_num, HTK.out (fun _ => (by have := HLN.out; omega)), H5.out⟩
                case measure => simp [intOf]; omega
          · have t6 : decide ((j : Int) < (k : Int)) = false := decide_eq_false (by omega)
            obtain rfl : j = k := by omega
            have HF := Lib.hid (show ∀ x ∈ text ++ data, Fnd text data x from by rw [List.take_of_length_le (by rw [HNN.out]; exact Nat.le_refl _)] at hok; exact hok)
            have HB := Lib.hid hB
            clear hok hB
            go_wp2_with fail
            exact HX0.out HOK.out HF.out _ HB.out
theorem r5checked_any (hP : Ly B w p TA tc text DA dc data zv av S U) (hl : text.length + data.length ≤ 1000000000000000) (hns : ∀ x ∈ text ++ data, x.s.size ≤ maxLen) (at_ dat : Nat) :
    Calls Tryd.prog 80 #[.pointer (some ⟨p, 0, none⟩), .int .u64 (at_ : Int), .int .u64 (dat : Int)] w (ChkTo w text data) := by
  by_cases h : at_ % 4 ≠ 0 ∨ dat % 8 ≠ 0 ∨ 1099511627776 < at_ ∨ 1099511627776 < dat
  · exact r5checked_out w p text data at_ dat h
  · exact r5checked_in B w p TA tc text DA dc data zv av S U hP hl hns at_ dat (by omega) (by omega) (by omega) (by omega)
end
end Go.Proofs

/- patinaref05.made: items laid out. -/
namespace Go.Pat
open Go Go.RowKit Go.Proofs
/-- which sizes a text's items may have. -/
def Shp (text : List It) (S : List Int) : Prop := ∀ j (h1 : j < text.length) (h2 : j < S.length), ((text[j]).k = 5 ∨ (text[j]).k = 6 → S[j] = 4 ∨ S[j] = 8) ∧ ((text[j]).k = 7 → S[j] = 4 ∨ S[j] = 8 ∨ S[j] = 12)
def room5 (S : List Int) : Nat := (S.map fun s => (12 - s).toNat).sum
theorem room5_set (S : List Int) (k : Nat) (hk : k < S.length) (h : S[k] = 4 ∨ S[k] = 8) : room5 (S.set k (S[k] + 4)) + 1 ≤ room5 S := by
  unfold room5
  induction S generalizing k with
  | nil => simp at hk
  | cons s r ih =>
    cases k with
    | zero =>
      simp only [List.getElem_cons_zero] at h
      simp only [List.getElem_cons_zero, List.set_cons_zero, List.map_cons, List.sum_cons]
      omega
    | succ k =>
      have h1 := ih k (by simpa using hk) (by simpa using h)
      simp only [List.getElem_cons_succ, List.set_cons_succ, List.map_cons, List.sum_cons]
      omega
theorem Shp.set {text : List It} {S : List Int} (h : Shp text S) {k : Nat} (h1 : k < text.length) (h2 : k < S.length) (hn : ((text[k]).k = 5 ∨ (text[k]).k = 6 ∨ (text[k]).k = 7)) (h8 : (text[k]).k = 5 ∨ (text[k]).k = 6 → S[k] ≠ 8) (h12 : (text[k]).k = 7 → S[k] ≠ 12) :
    (S[k] = 4 ∨ S[k] = 8) ∧ Shp text (S.set k (S[k] + 4)) := by
  have hk := h k h1 h2
  refine ⟨?_, fun j j1 j2 => ?_⟩
  · rcases hn with hn | hn | hn
    · have := hk.1 (.inl hn); have := h8 (.inl hn); omega
    · have := hk.1 (.inr hn); have := h8 (.inr hn); omega
    · have := hk.2 hn; have := h12 hn; omega
  · by_cases hj : k = j
    · subst hj
      simp only [List.getElem_set_self]
      refine ⟨fun a => ?_, fun a => ?_⟩
      · have := hk.1 a; have := h8 a; omega
      · have := hk.2 a; have := h12 a; omega
    · simp only [List.getElem_set_ne hj]
      exact h j j1 (by simpa using j2)
end Go.Pat
namespace Go.Proofs
open Go Go.RowKit Go.Pat
section
variable (w : World) (TA : Option Addr) (tc : Nat) (text : List It) (DA : Option Addr) (dc : Nat) (data : List It)
def MadeTo (e : Ending) (w' : World) : Prop :=
  ∃ (p : Nat) (z i : Int), e = .returned (.tuple #[.pointer (some ⟨p, 0, none⟩), .int .i64 z, .int .i64 i]) ∧ Below w.heap.size w w' ∧ p < w'.heap.size ∧
    (z = 0 → Chk text data ∧ ∃ zv av S U, Ly w.heap.size w' p TA tc text DA dc data zv av S U ∧ S.length = text.length ∧ U.length = text.length + data.length)
set_option maxRecDepth 20000 in
set_option maxHeartbeats 8000000 in
theorem r5made_any (hT : Cs w.heap.size w TA (tcells text)) (hD : Cs w.heap.size w DA (tcells data)) (hl : text.length + data.length ≤ 1000000000000000) (hns : ∀ x ∈ text ++ data, x.s.size ≤ maxLen) (hni : ∀ x ∈ text ++ data, -9223372036854775808 ≤ x.n ∧ x.n < 9223372036854775808) (at_ dat : Nat) :
    Calls Tryd.prog 50 #[.slice TA text.length tc, .slice DA data.length dc, .int .u64 (at_ : Int), .int .u64 (dat : Int)] w (MadeTo w TA tc text DA dc data) := by
  obtain ⟨W1, hW1⟩ : ∃ W1, W1 = w.alloc (.cells #[.slice TA text.length tc, .slice DA data.length dc, .slice none 0 0, .slice none 0 0] 120) := ⟨_, rfl⟩
  have hB1 : Below w.heap.size w W1 := by rw [hW1]; exact form1 w _
  have hst : W1.heap[w.heap.size]? = some (.cells #[.slice TA text.length tc, .slice DA data.length dc, .slice none 0 0, .slice none 0 0] 120 (0, 0)) := by rw [hW1]; exact heap_alloc_new w _
  have hP1 : Ly w.heap.size W1 w.heap.size TA tc text DA dc data (.slice none 0 0) (.slice none 0 0) [] [] := ⟨hst, hT.below hB1, hD.below hB1, Nat.le_refl _, OwnZ.nil _ _, OwnU.nil _ _⟩
  obtain ⟨p, hp⟩ : ∃ p, p = w.heap.size := ⟨_, rfl⟩
  have HC := Lib.hid (r5checked_any w.heap.size W1 w.heap.size TA tc text DA dc data _ _ [] [] hP1 hl hns at_ dat)
  have HW1 := Lib.hid hW1
  have HP1 := Lib.hid (And.intro hP1 hB1)
  have HNI := Lib.hid hni
  have HX := Lib.hid (show ∀ (z i : Int), z ≠ 0 → ∀ W, Below w.heap.size w W → w.heap.size < W.heap.size → MadeTo w TA tc text DA dc data (.returned (.tuple #[.pointer (some ⟨w.heap.size, 0, none⟩), .int .i64 z, .int .i64 i])) W from fun z i hz W h1 h2 => ⟨_, z, i, rfl, h1, h2, fun h => (hz h).elim⟩)
  have HX0 := Lib.hid (show ∀ W zv av S U, Below w.heap.size w W → Chk text data → Ly w.heap.size W w.heap.size TA tc text DA dc data zv av S U → S.length = text.length → U.length = text.length + data.length → MadeTo w TA tc text DA dc data (.returned (.tuple #[.pointer (some ⟨w.heap.size, 0, none⟩), .int .i64 0, .int .i64 0])) W from
    fun W zv av S U h1 h2 h3 h4 h5 => ⟨_, 0, 0, rfl, h1, h3.lt, fun _ => ⟨h2, zv, av, S, U, h3, h4, h5⟩⟩)
  generalize MadeTo w TA tc text DA dc data = PP at *
  clear hW1 hB1 hst hP1 hT hD hns hni
  go_enter Tryd.func50, Tryd.ntmps50
  go_upto_region 2 with fail
  rw [← HW1.out]
  go_wp2_with fail
  with_reducible refine Calls.mono HC.out ?_
  rintro e w2 ⟨z, i, rfl, hz, hB2⟩
  have hB02 := HP1.out.2.trans (hB2.mono HP1.out.2.size)
  have hP2 := HP1.out.1.keep hB2
  have hp2 := hP2.lt
  by_cases hz0 : z = 0
  rotate_left 1
  · have tz : (z != 0) = true := by simpa using hz0
    have HZ := Lib.hid hz0
    have H2 := Lib.hid hB02
    clear hz hB2 hB02 hP2 hz0
    go_wp2_with fail
    go_ret3
    exact HX.out _ _ HZ.out _ H2.out hp2
  · subst hz0
    have hck := hz rfl
    have htl : text.length ≤ 1048576 := by have := hck.len; omega
    have HCK := Lib.hid hck
    have H2 := Lib.hid (And.intro hP2 hB02)
    have s0 : Shp text [] := fun j h1 h2 => (by simp at h2)
    have HS0 := Lib.hid s0
    clear hz hB2 hB02 hP2 s0 hck
    go_wp2_with fail
    go_loopw [42] (fun i wr => ∃ (k : Nat) (zv : Value) (S : List Int), k ≤ text.length ∧ i = .int .i64 k ∧ Ly w.heap.size wr w.heap.size TA tc text DA dc data zv (.slice none 0 0) S [] ∧ S.length = k ∧ Shp text S ∧ Below w.heap.size w wr) (fun i _ => text.length - (intOf i).toNat)
    case atStart => exact ⟨0, _, [], Nat.zero_le _, rfl, H2.out.1, rfl, HS0.out, H2.out.2⟩
    case round =>
      obtain ⟨k, zv, S, hk, rfl, hPr, hSk, hsh, hB⟩ := hrel
      by_cases hlt : k < text.length
      · have t1 : decide ((k : Int) < (text.length : Int)) = true := decide_eq_true (by omega)
        have hku : (k : Int) < (text.length : Int) := by omega
        obtain ⟨b, o, e0, hb, x0, x1, x2, x3, x4, x5, x6⟩ := item_at hPr.tx2 k hlt
        cases e0
        have HA0 := fun W => r5least_any text[k] (HNI.out text[k] (List.mem_append_left _ (List.getElem_mem hlt))) W
        have hcs : (text[k]).cs = #[.int .i64 (text[k]).k, .string (text[k]).s, .int .i64 (text[k]).op, .int .i64 (text[k]).rd, .int .i64 (text[k]).a, .int .i64 (text[k]).b, .int .i64 (text[k]).n] := rfl
        rw [hcs] at HA0
        clear hcs
        unfold IntTo at HA0
        have hshn : ∀ z : Int, ((text[k]).k = 5 ∨ (text[k]).k = 6 ∨ (text[k]).k = 7 → z = 4) → Shp text (S ++ [z]) := fun z hz j j1 j2 => by
          by_cases hj : j < S.length
          · rw [List.getElem_append_left hj]
            exact hsh j j1 hj
          · obtain rfl : j = k := by rw [List.length_append] at j2; simp at j2; omega
            rw [List.getElem_append_right (by omega)]
            simp only [hSk, Nat.sub_self, List.getElem_cons_zero]
            exact ⟨fun a => .inl (hz (by omega)), fun a => .inl (hz (by omega))⟩
        have HSN := Lib.hid hshn
        generalize text[k].k = v0 at *
        generalize text[k].s = v1 at *
        generalize text[k].op = v2 at *
        generalize text[k].rd = v3 at *
        generalize text[k].a = v4 at *
        generalize text[k].b = v5 at *
        generalize text[k].n = v6 at *
        obtain ⟨A, c, e1, -⟩ := hPr.szs.form
        rw [hSk] at e1
        subst e1
        obtain ⟨WA, hWA⟩ : ∃ WA, WA = wr.alloc (.cells #[.int .i64 v0, .string v1, .int .i64 v2, .int .i64 v3, .int .i64 v4, .int .i64 v5, .int .i64 v6] 61) := ⟨_, rfl⟩
        have hBA : Below wr.heap.size wr WA := by rw [hWA]; exact form1 wr _
        have hbl : WA.heap[wr.heap.size]? = some (.cells #[.int .i64 v0, .string v1, .int .i64 v2, .int .i64 v3, .int .i64 v4, .int .i64 v5, .int .i64 v6] 61 (0, 0)) := by rw [hWA]; exact heap_alloc_new wr _
        have hP1 := hPr.keep hBA
        have HWA := Lib.hid hWA
        have g0 := (obj_cell hbl 0).trans rfl
        have g1 := (obj_cell hbl 1).trans rfl
        have g2 := (obj_cell hbl 2).trans rfl
        have g3 := (obj_cell hbl 3).trans rfl
        have g4 := (obj_cell hbl 4).trans rfl
        have g5 := (obj_cell hbl 5).trans rfl
        have g6 := (obj_cell hbl 6).trans rfl
        have hgl := lt_of_block hbl
        have p2 : WA.cell? ⟨w.heap.size, 2, none⟩ = some (.slice A k c) := (obj_cell hP1.str 2).trans rfl
        have p2f := obj_frozen hP1.str 2
        have hp1 := hP1.lt
        have HA := Lib.hid (HA0 WA.drew)
        have HPA := Lib.hid (And.intro hP1 (hB.trans (hBA.mono hPr.le)))
        have HSk := Lib.hid hSk
        clear HA0 hP1 hWA hbl hPr hshn hsh hSk hB hBA
        go_upto_region 8 with fail
        rw [← HWA.out]
        go_region_law (first
          | (go_simp
             go_at_call 81
             with_reducible refine HA.out.mono ?_
             rintro e w3 ⟨z, rfl, hz4, hB3⟩
             have q2 : w3.cell? ⟨w.heap.size, 2, none⟩ = some (.slice A k c) := (hB3.cell (p := ⟨w.heap.size, 2, none⟩) hp1).trans p2
             have hp3 : w.heap.size < w3.heap.size := Nat.lt_of_lt_of_le hp1 hB3.size
             have q2f : w3.frozen? ⟨w.heap.size, 2, none⟩ = false := (hB3.frozen (p := ⟨w.heap.size, 2, none⟩) hp1).trans p2f)
          | (refine step_appZ rfl (.tmp 50) (.tmp 53) rfl w.heap.size (.slice A k c) S rfl (owns_below (owns_below HPA.out.1.szs (show Below WA.heap.size WA w3 from ⟨hB3.os, hB3.tape, hB3.output, hB3.size, hB3.block⟩)) (form1 w3 _)) _ _ 1 1 [z] rfl rfl (lit_z w3 z) (by rw [HSk.out]; omega) (by rw [World.size_alloc]; omega) ?_
             intro v3 w4 hown4 hB4 hk4 hs4
             have hk5 : ∀ g, g < WA.heap.size → (Value.slice A k c).ownBlock ≠ some g → w4.heap[g]? = WA.heap[g]? := fun g hg hne => by
               have h2 : WA.heap.size ≤ w3.heap.size := hB3.size
               rw [hk4 g (by rw [World.size_alloc]; omega) hne, Below.heap_alloc _ _ g (by omega)]
               exact hB3.block g hg
             have hB5 : Below w.heap.size WA w4 := hB4 WA (((show Below WA.heap.size WA w3 from ⟨hB3.os, hB3.tape, hB3.output, hB3.size, hB3.block⟩).mono HPA.out.1.le).alloc (Nat.le_trans HPA.out.1.le hB3.size) _)
             obtain ⟨A4, c4, e4, _⟩ := hown4.form
             rw [show (S ++ [z]).length = k + 1 by simp [HSk.out]] at e4
             subst e4
             have hrest := HPA.out.1.setZ hB5 hk5 hown4
             have hstr4 := (hk5 w.heap.size hp1 HPA.out.1.apart_p.2).trans HPA.out.1.str
             have r2 : w4.cell? ⟨w.heap.size, 2, none⟩ = some (.slice A k c) := obj_cell hstr4 2
             have r2f := obj_frozen hstr4 2
             have hp4 := lt_of_block hstr4
             have HR := Lib.hid (And.intro hrest (HSN.out z hz4))
             clear hrest hstr4 hown4 hB4 hk4 hk5 hB5))
        all_goals
          go_wp2_with fail
          go_roundw
          case rel => exact ⟨k + 1, _, _, by omega, by go_num, HR.out.1.1, by simp [HSk.out], HR.out.2, HPA.out.2.trans HR.out.1.2⟩
          case measure => simp [intOf]; omega
      · have t1 : decide ((k : Int) < (text.length : Int)) = false := decide_eq_false (by omega)
        obtain rfl : k = text.length := by omega
        obtain ⟨W7, hW7⟩ : ∃ W7, W7 = wr := ⟨_, rfl⟩
        subst hW7
        have H7 := Lib.hid (And.intro hPr (And.intro hSk (And.intro hsh hB)))
        clear hPr hSk hsh hB
        obtain ⟨μ, hμ⟩ := mu_exists (Q := fun q wr m => ∃ (c : Bool) (zv av : Value) (S : List Int) (U : List Nat), q = .bool c ∧ Ly w.heap.size wr w.heap.size TA tc text DA dc data zv av S U ∧ m = room5 S + (if c then 1 else 0)) (by
          rintro q w1 a1 a2 ⟨c, z1, v1, S1, U1, rfl, h1, rfl⟩ ⟨c2, z2, v2, S2, U2, e, h2, rfl⟩
          cases e
          have h3 := h1.str
          rw [h2.str] at h3
          simp at h3
          obtain ⟨rfl, rfl⟩ := h3
          rw [OwnZ.one h1.szs h2.szs])
        have HMU := Lib.hid hμ
        clear hμ
        go_wp2_with fail
        go_loopw [16] (fun q wr => ∃ (c : Bool) (zv av : Value) (S : List Int) (U : List Nat), q = .bool c ∧ Ly w.heap.size wr w.heap.size TA tc text DA dc data zv av S U ∧ S.length = text.length ∧ Shp text S ∧ Below w.heap.size w wr ∧ (c = false → U.length = text.length + data.length)) (fun q wr => μ q wr)
        case atStart => exact ⟨true, _, _, S, [], rfl, H7.out.1, H7.out.2.1, H7.out.2.2.1, H7.out.2.2.2, fun h => by cases h⟩
        case round =>
          obtain ⟨c, zv2, av2, S2, U2, rfl, hPr, hSl, hsh, hB, hUl⟩ := hrel
          obtain ⟨W8, hW8⟩ : ∃ W8, W8 = wr := ⟨_, rfl⟩
          subst hW8
          cases c with
          | false =>
            have H8 := Lib.hid (And.intro hPr (And.intro hSl (And.intro hsh (And.intro hB (hUl rfl)))))
            clear hPr hSl hsh hB hUl
            go_wp2_with fail
            go_loopw [89] (fun i wr => ∃ (k : Nat), k ≤ text.length ∧ i = .int .i64 k ∧ Below W8.heap.size W8 wr) (fun i _ => text.length - (intOf i).toNat)
            case atStart => exact ⟨0, Nat.zero_le _, rfl, Below.refl _ _⟩
            case round =>
              obtain ⟨k, hk, rfl, hB⟩ := hrel
              have HXR := Lib.hid (show ∀ (W : World), Below W8.heap.size W8 W → PP (.returned (.tuple #[.pointer (some ⟨w.heap.size, 0, none⟩), .int .i64 52, .int .i64 (k : Int)])) W from fun W hW => HX.out 52 k (by decide) W (H8.out.2.2.2.1.trans (hW.mono H8.out.2.2.2.1.size)) (Nat.lt_of_lt_of_le H8.out.1.lt hW.size))
              by_cases hlt : k < text.length
              · have t1 : decide ((k : Int) < (text.length : Int)) = true := decide_eq_true (by omega)
                have hku : (k : Int) < (text.length : Int) := by omega
                have hPr := H8.out.1.keep hB
                have hkS : k < S2.length := by have := H8.out.2.1; omega
                have hkU : k < U2.length := by have := H8.out.2.2.2.2; omega
                have hkz : (k : Int) < (S2.length : Int) := by omega
                have hkq : (k : Int) < (U2.length : Int) := by omega
                have hzl : S2.length ≤ 1048576 := by have := H8.out.2.1; omega
                have hql : U2.length ≤ 1048576 := by have := H8.out.2.2.2.2; have := HCK.out.len; omega
                have HF0 := fun (hk : refK (text[k]).k) W (hW : Below W8.heap.size W8 W) (frm : Int) => r5far_any w.heap.size W w.heap.size TA tc text DA dc data zv2 av2 S2 U2 (H8.out.1.keep hW) hl H8.out.2.2.2.2 k hlt (HCK.out.fnd text[k] (List.mem_append_left _ (List.getElem_mem hlt)) hk) frm
                have HLg0 := fun (sz : Int) W => r5long_any text[k] sz W
                have hcs : (text[k]).cs = #[.int .i64 (text[k]).k, .string (text[k]).s, .int .i64 (text[k]).op, .int .i64 (text[k]).rd, .int .i64 (text[k]).a, .int .i64 (text[k]).b, .int .i64 (text[k]).n] := rfl
                rw [hcs] at HLg0
                clear hcs
                unfold BoolTo at HLg0
                obtain ⟨b, o, e0, hb, x0, x1, x2, x3, x4, x5, x6⟩ := item_at hPr.tx2 k hlt
                cases e0
                obtain ⟨Az, cz, ez, hz⟩ := hPr.szs.form
                obtain ⟨bz, oz, eZ, hbz, z0⟩ := z_at5 hz k hkS
                subst eZ
                obtain ⟨Au, cu, eu, hu⟩ := hPr.ats.form
                obtain ⟨bu, ou, eU, hbu, u0⟩ := u_at5 hu k hkU
                subst eU
                subst ez
                subst eu
                generalize (U2[k] : Nat) = un at *
                generalize (S2[k] : Int) = sn at *
                have HLg := Lib.hid (HLg0 sn)
                generalize text[k].k = v0 at *
                generalize text[k].s = v1 at *
                generalize text[k].op = v2 at *
                generalize text[k].rd = v3 at *
                generalize text[k].a = v4 at *
                generalize text[k].b = v5 at *
                generalize text[k].n = v6 at *
                have HF := Lib.hid HF0
                obtain ⟨WA, hWA⟩ : ∃ WA, WA = wr.alloc (.cells #[.int .i64 v0, .string v1, .int .i64 v2, .int .i64 v3, .int .i64 v4, .int .i64 v5, .int .i64 v6] 61) := ⟨_, rfl⟩
                have hBA : Below wr.heap.size wr WA := by rw [hWA]; exact form1 wr _
                have hblA : WA.heap[wr.heap.size]? = some (.cells #[.int .i64 v0, .string v1, .int .i64 v2, .int .i64 v3, .int .i64 v4, .int .i64 v5, .int .i64 v6] 61 (0, 0)) := by rw [hWA]; exact heap_alloc_new wr _
                have hBXA := hB.trans (hBA.mono hB.size)
                have hstA := (hPr.keep hBA).str
                have hubA : bu < WA.heap.size := Nat.lt_of_lt_of_le hbu hBA.size
                have huA := (hBA.cell (p := ⟨bu, ou + k, none⟩) hbu).trans u0
                have hzbA : bz < WA.heap.size := Nat.lt_of_lt_of_le hbz hBA.size
                have hzA := (hBA.cell (p := ⟨bz, oz + k, none⟩) hbz).trans z0
                have HWA := Lib.hid hWA
                have hyA0 := (obj_cell hblA 0).trans rfl
                have hyA1 := (obj_cell hblA 1).trans rfl
                have hyA2 := (obj_cell hblA 2).trans rfl
                have hyA3 := (obj_cell hblA 3).trans rfl
                have hyA4 := (obj_cell hblA 4).trans rfl
                have hyA5 := (obj_cell hblA 5).trans rfl
                have hyA6 := (obj_cell hblA 6).trans rfl
                have hylA := lt_of_block hblA
                have hqA2 := (obj_cell hstA 2).trans rfl
                have hqA3 := (obj_cell hstA 3).trans rfl
                have hqlA := lt_of_block hstA
                clear hPr HF0 HLg0 hz hu hWA hBA hB
                by_cases hj : v0 = 5 ∨ v0 = 6 ∨ v0 = 7
                · have hjj : (v0 == 5) = true ∨ ((v0 == 5) = false ∧ (v0 == 6) = true) ∨ ((v0 == 5) = false ∧ (v0 == 6) = false ∧ (v0 == 7) = true) := by
                    rcases hj with rfl | rfl | rfl <;> decide
                  have HK := Lib.hid (show refK v0 from by unfold refK; omega)
                  clear hj
                  rcases hjj with t5 | ⟨t5, t6⟩ | ⟨t5, t6, t7⟩
                  all_goals
                    go_upto_region 24 with fail
                    rw [← HWA.out]
                    go_wp2_with fail
                    with_reducible refine Calls.mono (HF.out HK.out _ hBXA _) ?_
                    rintro e w4 ⟨z4, rfl, hB4⟩
                    have hBX4 := hBXA.trans (hB4.mono hBXA.size)
                    have hbl4 := (hB4.block wr.heap.size hylA).trans hblA
                    have hst4 := (hB4.block w.heap.size hqlA).trans hstA
                    have hub4 := Nat.lt_of_lt_of_le hubA hB4.size
                    have hu4 := (hB4.cell (p := ⟨bu, ou + k, none⟩) hubA).trans huA
                    have hzb4 := Nat.lt_of_lt_of_le hzbA hB4.size
                    have hz4 := (hB4.cell (p := ⟨bz, oz + k, none⟩) hzbA).trans hzA
                    have hy40 := (obj_cell hbl4 0).trans rfl
                    have hy41 := (obj_cell hbl4 1).trans rfl
                    have hy42 := (obj_cell hbl4 2).trans rfl
                    have hy43 := (obj_cell hbl4 3).trans rfl
                    have hy44 := (obj_cell hbl4 4).trans rfl
                    have hy45 := (obj_cell hbl4 5).trans rfl
                    have hy46 := (obj_cell hbl4 6).trans rfl
                    have hyl4 := lt_of_block hbl4
                    have hq42 := (obj_cell hst4 2).trans rfl
                    have hq43 := (obj_cell hst4 3).trans rfl
                    have hql4 := lt_of_block hst4
                    clear hB4
                    cases tz : (z4.tmod 2 != 0)
                    · go_wp2_with fail
                      go_still_tail 8, (by kernel_rfl)
                      go_wp2_with (first
                        | (go_at_call 85
                           with_reducible refine (HLg.out w4.drew).mono ?_
                           rintro e w5 ⟨lb, rfl, hlb, hB5⟩
                           have hB85 := hBX4.drew.trans (hB5.mono hBX4.drew.size)
                           have hbl5 := (hB5.block wr.heap.size hyl4).trans hbl4
                           have hst5 := (hB5.block w.heap.size hql4).trans hst4
                           have hu5 := (hB5.cell (p := ⟨bu, ou + k, none⟩) hub4).trans hu4
                           have hub5 := Nat.lt_of_lt_of_le hub4 hB5.size
                           have e0 := (obj_cell hbl5 0).trans rfl
                           have e3 := (obj_cell hst5 3).trans rfl
                           have el5 := lt_of_block hbl5
                           have eq5 := lt_of_block hst5
                           have H5 := Lib.hid (And.intro hlb hB85)
                           clear hlb hB5 hB85 hbl5 hst5)
                        | (go_at_call 84
                           with_reducible refine (HF.out (H5.out.1 (by assumption)) _ H5.out.2 _).mono ?_
                           rintro e w6 ⟨z6, rfl, hB6⟩
                           have H6 := Lib.hid (H5.out.2.trans (hB6.mono H5.out.2.size))
                           clear hB6))
                      all_goals first
                        | (go_roundw
                           case rel => exact ⟨k + 1, by omega, by go_num, by first | exact H6.out | exact H5.out.2⟩
                           case measure => simp [intOf]; omega)
                        | (go_ret3
                           exact HXR.out _ (by first | exact H6.out | exact H5.out.2))
                    · go_wp2_with fail
                      go_ret3
                      exact HXR.out _ hBX4
                · have t5 : (v0 == 5) = false := by simp; omega
                  have t6 : (v0 == 6) = false := by simp; omega
                  have t7 : (v0 == 7) = false := by simp; omega
                  clear hj
                  go_upto_region 27 with fail
                  rw [← HWA.out]
                  go_still_tail 8, (by kernel_rfl)
                  go_wp2_with (first
                    | (go_at_call 85
                       with_reducible refine (HLg.out WA.drew).mono ?_
                       rintro e w5 ⟨lb, rfl, hlb, hB5⟩
                       have hB85 := hBXA.drew.trans (hB5.mono hBXA.drew.size)
                       have hbl5 := (hB5.block wr.heap.size hylA).trans hblA
                       have hst5 := (hB5.block w.heap.size hqlA).trans hstA
                       have hu5 := (hB5.cell (p := ⟨bu, ou + k, none⟩) hubA).trans huA
                       have hub5 := Nat.lt_of_lt_of_le hubA hB5.size
                       have e0 := (obj_cell hbl5 0).trans rfl
                       have e3 := (obj_cell hst5 3).trans rfl
                       have el5 := lt_of_block hbl5
                       have eq5 := lt_of_block hst5
                       have H5 := Lib.hid (And.intro hlb hB85)
                       clear hlb hB5 hB85 hbl5 hst5)
                    | (go_at_call 84
                       with_reducible refine (HF.out (H5.out.1 (by assumption)) _ H5.out.2 _).mono ?_
                       rintro e w6 ⟨z6, rfl, hB6⟩
                       have H6 := Lib.hid (H5.out.2.trans (hB6.mono H5.out.2.size))
                       clear hB6))
                  all_goals first
                    | (go_roundw
                       case rel => exact ⟨k + 1, by omega, by go_num, by first | exact H6.out | exact H5.out.2⟩
                       case measure => simp [intOf]; omega)
                    | (go_ret3
                       exact HXR.out _ (by first | exact H6.out | exact H5.out.2))
              · have t1 : decide ((k : Int) < (text.length : Int)) = false := decide_eq_false (by omega)
                have hPr := H8.out.1.keep hB
                have HE := Lib.hid (And.intro hPr (H8.out.2.2.2.1.trans (hB.mono H8.out.2.2.2.1.size)))
                clear hPr hB
                go_wp2_with fail
                go_ret3
                exact HX0.out _ _ _ _ _ HE.out.2 HCK.out HE.out.1 H8.out.2.1 H8.out.2.2.2.2
          | true =>
            have HPl := Lib.hid (r5place_any w.heap.size W8 w.heap.size TA tc text DA dc data zv2 av2 S2 U2 hPr HCK.out.len hSl (fun x hx => HNI.out x (List.mem_append_right _ hx)) at_ dat)
            have H8 := Lib.hid (And.intro hPr (And.intro hSl (And.intro hsh hB)))
            clear hPr hSl hsh hB hUl
            go_wp2_with fail
            with_reducible refine Calls.mono HPl.out ?_
            rintro e w3 ⟨rfl, hB3, av3, U3, hP3, hU3⟩
            have H3 := Lib.hid (And.intro hP3 (And.intro hU3 (H8.out.2.2.2.trans hB3)))
            clear hB3 hP3 hU3
            go_wp2_with fail
            go_loopw [16, 65] (fun q i wr => ∃ (k : Nat) (cb : Bool) (S3 : List Int), k ≤ text.length ∧ i = .int .i64 k ∧ q = .bool cb ∧ Ly w.heap.size wr w.heap.size TA tc text DA dc data zv2 av3 S3 U3 ∧ S3.length = text.length ∧ Shp text S3 ∧ room5 S3 + (if cb then 1 else 0) ≤ room5 S2 ∧ Below w.heap.size w wr) (fun _ i _ => text.length - (intOf i).toNat)
            case atStart => exact ⟨0, false, S2, Nat.zero_le _, rfl, rfl, H3.out.1, H8.out.2.1, H8.out.2.2.1, by simp, H3.out.2.2⟩
            case round =>
              obtain ⟨k, cb, S3, hk, rfl, rfl, hPr, hSl, hsh, hrm, hB⟩ := hrel
              by_cases hlt : k < text.length
              · have t1 : decide ((k : Int) < (text.length : Int)) = true := decide_eq_true (by omega)
                have hkS : k < S3.length := by omega
                have HRc := Lib.hid (show Calls Tryd.prog 83 #[.pointer (some ⟨w.heap.size, 0, none⟩), .int .i64 (k : Int)] wr (BoolTo (fun b => ((text[k]).k = 5 ∨ (text[k]).k = 6 → S3[k]'hkS = 8 → b = true) ∧ ((text[k]).k = 7 → S3[k]'hkS = 12 → b = true) ∧ (¬ ((text[k]).k = 5 ∨ (text[k]).k = 6 ∨ (text[k]).k = 7) → b = true)) wr) from r5reaches_any w.heap.size wr w.heap.size TA tc text DA dc data zv2 av3 S3 U3 hPr hl hSl H3.out.2.1 k hlt (HCK.out.fnd text[k] (List.mem_append_left _ (List.getElem_mem hlt))))
                have HP := Lib.hid (And.intro hPr (And.intro hSl (And.intro hsh (And.intro hrm hB))))
                clear hPr hSl hsh hrm hB
                go_wp2_with fail
                with_reducible refine Calls.mono HRc.out ?_
                rintro e w4 ⟨rb, rfl, hrb, hB4⟩
                have hP4 := HP.out.1.keep hB4
                have hB04 := HP.out.2.2.2.2.trans (hB4.mono HP.out.1.le)
                cases rb
                · have hset := HP.out.2.2.1.set hlt hkS (by
                    by_cases hn : (text[k]).k = 5 ∨ (text[k]).k = 6 ∨ (text[k]).k = 7
                    · exact hn
                    · exact absurd (hrb.2.2 hn) (by decide)) (fun a b => absurd (hrb.1 a b) (by decide)) (fun a b => absurd (hrb.2.1 a b) (by decide))
                  have hroom := room5_set S3 k hkS hset.1
                  obtain ⟨g, cap, e4, hg, cur, hcur⟩ := hP4.szs.own (by omega)
                  rw [HP.out.2.1] at e4
                  subst e4
                  obtain ⟨A5, c5, e5, hcs⟩ := hP4.szs.form
                  simp only [Value.slice.injEq] at e5
                  obtain ⟨rfl, -, -⟩ := e5
                  obtain ⟨g', o', e6, -, n0⟩ := z_at5 hcs k hkS
                  cases e6
                  rw [Nat.zero_add] at n0
                  have n0f : w4.frozen? ⟨g, k, none⟩ = false := obj_frozen hcur k
                  have hgl := lt_of_block hcur
                  have p2 : w4.cell? ⟨w.heap.size, 2, none⟩ = some (.slice (some ⟨g, 0, none⟩) text.length cap) := (obj_cell hP4.str 2).trans rfl
                  have hp4 := hP4.lt
                  have hnew := (hP4.keep (Below.refl w4.heap.size w4).drew).set1 (HP.out.2.1) k (S3[k] + 4)
                  have hw4 : IntKind.i64.wrap (S3[k] + 4) = S3[k] + 4 := by rw [IntKind.wrap_i64]; have := hset.1; omega
                  have hw5 : wrap64 (S3[k] + 4) = S3[k] + 4 := by unfold wrap64; have := hset.1; omega
                  have hku : (k : Int) < (text.length : Int) := by omega
                  have HN := Lib.hid (And.intro hnew (And.intro hset (And.intro hroom hB04)))
                  generalize S3[k] = sk at *
                  clear hrb hB4 hP4 hB04 hset hroom hcs hnew hcur hg
                  go_wp2_with fail
                  go_region
                  all_goals go_wp2_with fail
                  all_goals go_roundw
                  case rel => exact ⟨k + 1, true, _, by omega, by go_num, rfl, HN.out.1.1, by rw [List.length_set]; exact HP.out.2.1, HN.out.2.1.2, by have := HN.out.2.2.1; have := HP.out.2.2.2.1; simp only [if_true]; omega, (HN.out.2.2.2.drew).trans HN.out.1.2⟩
                  case measure => simp [intOf]; omega
                · have HN := Lib.hid (And.intro hP4 hB04)
                  clear hrb hB4 hP4 hB04
                  go_wp2_with fail
                  go_roundw
                  case rel => exact ⟨k + 1, cb, S3, by omega, by go_num, rfl, HN.out.1, HP.out.2.1, HP.out.2.2.1, HP.out.2.2.2.1, HN.out.2⟩
                  case measure => simp [intOf]; omega
              · have t1 : decide ((k : Int) < (text.length : Int)) = false := decide_eq_false (by omega)
                have HP := Lib.hid (And.intro hPr (And.intro hSl (And.intro hsh (And.intro hrm hB))))
                clear hPr hSl hsh hrm hB
                go_wp2_with fail
                go_roundw
                case rel => exact ⟨cb, _, _, S3, U3, rfl, HP.out.1, HP.out.2.1, HP.out.2.2.1, HP.out.2.2.2.2, fun _ => H3.out.2.1⟩
                case measure =>
                  rw [HMU.out (.bool cb) wr _ ⟨cb, _, _, S3, U3, rfl, HP.out.1, rfl⟩, HMU.out (.bool true) W8 _ ⟨true, _, _, S2, U2, rfl, H8.out.1, rfl⟩]
                  have := HP.out.2.2.2.1
                  simp only [if_true]
                  omega
end
end Go.Proofs

/- (*patinaref05.layout).code: it returns instructions that have words. (Printed by wip/tools/gen_r5d.py.) -/
namespace Go.Pat
open Go Go.RowKit
theorem wordOk_liM (k : Nat) (rd : Int) (h : 0 ≤ rd ∧ rd < 32) : ∀ n : Int, ∀ i ∈ liM k rd n, WordOk i := by
  induction k with
  | zero => intro n i hi; cases hi
  | succ k ih =>
    intro n i hi
    have z : (0 : Int) ≤ 0 ∧ (0 : Int) < 32 := by decide
    have o1 : (0 : Int) ≤ 1 ∧ (1 : Int) < 66 := by decide
    have o2 : (0 : Int) ≤ 22 ∧ (22 : Int) < 66 := by decide
    have o3 : (0 : Int) ≤ 28 ∧ (28 : Int) < 66 := by decide
    have o4 : (0 : Int) ≤ 31 ∧ (31 : Int) < 66 := by decide
    unfold liM at hi
    split at hi
    · rw [List.mem_singleton] at hi
      subst hi
      exact ⟨o2, h, z, z⟩
    · split at hi
      · rcases List.mem_cons.1 hi with rfl | hi
        · exact ⟨o1, h, z, z⟩
        · split at hi
          · rw [List.mem_singleton] at hi
            subst hi
            exact ⟨o4, h, h, z⟩
          · cases hi
      · rcases List.mem_append.1 hi with hi | hi
        · exact ih _ i hi
        · rcases List.mem_cons.1 hi with rfl | hi
          · exact ⟨o3, h, h, z⟩
          · split at hi
            · rw [List.mem_singleton] at hi
              subst hi
              exact ⟨o2, h, h, z⟩
            · cases hi
end Go.Pat
namespace Go.Proofs
open Go Go.RowKit Go.Pat
theorem wok {op rd a b n : Int} (h1 : 0 ≤ op ∧ op < 66) (h2 : 0 ≤ rd ∧ rd < 32) (h3 : 0 ≤ a ∧ a < 32) (h4 : 0 ≤ b ∧ b < 32) : WordOk ⟨op, rd, a, b, n⟩ := ⟨h1, h2, h3, h4⟩
theorem own_litg (W : World) (base : Nat) (hb : base ≤ W.heap.size) (g : Nat) (hg : g = W.heap.size) (i j : In) : OwnI (W.alloc (.cells #[.int .i64 i.op, .int .i64 i.rd, .int .i64 i.a, .int .i64 i.b, .int .i64 i.n, .int .i64 j.op, .int .i64 j.rd, .int .i64 j.a, .int .i64 j.b, .int .i64 j.n] 32)) base (.slice (some ⟨g, 0, none⟩) 2 2) [i, j] := by
  subst hg
  exact World.ownsRow_lit W #[.int .i64 i.op, .int .i64 i.rd, .int .i64 i.a, .int .i64 i.b, .int .i64 i.n, .int .i64 j.op, .int .i64 j.rd, .int .i64 j.a, .int .i64 j.b, .int .i64 j.n] 2 hb (by decide) rfl
theorem own_lits (W : World) (base : Nat) (hb : base ≤ W.heap.size) (g : Nat) (hg : g = W.heap.size) (i : In) : OwnI (W.alloc (.cells #[.int .i64 i.op, .int .i64 i.rd, .int .i64 i.a, .int .i64 i.b, .int .i64 i.n] 32)) base (.slice (some ⟨g, 0, none⟩) 1 1) [i] := by
  subst hg
  exact OwnI.lit W base hb i
theorem lit_insg (W : World) (g : Nat) (hg : g = W.heap.size) (i : In) : Cs (W.alloc (.cells #[.int .i64 i.op, .int .i64 i.rd, .int .i64 i.a, .int .i64 i.b, .int .i64 i.n] 32)).heap.size (W.alloc (.cells #[.int .i64 i.op, .int .i64 i.rd, .int .i64 i.a, .int .i64 i.b, .int .i64 i.n] 32)) (some ⟨g, 0, none⟩) (icells [i]) := by
  subst hg
  exact lit_ins W i
/-- instructions that have words, in a slice of the call's own. -/
def CodeTo5 (w : World) (e : Ending) (w' : World) : Prop := ∃ (v : Value) (l : List In), e = .returned v ∧ OwnI w' w.heap.size v l ∧ l.length ≤ 100 ∧ (∀ i ∈ l, WordOk i) ∧ Below w.heap.size w w'
theorem size_setCell5 (w : World) (p : Addr) (v : Value) : (w.setCell p v).heap.size = w.heap.size := by simp [World.setCell]
section
variable (B : Nat) (w : World) (p : Nat) (TA : Option Addr) (tc : Nat) (text : List It) (DA : Option Addr) (dc : Nat) (data : List It) (zv av : Value) (S : List Int) (U : List Nat)
set_option maxRecDepth 20000 in
set_option maxHeartbeats 8000000 in
theorem r5code_2 (hP : Ly B w p TA tc text DA dc data zv av S U) (hl : text.length + data.length ≤ 1000000000000000) (hS : S.length = text.length) (hU : U.length = text.length + data.length) (n : Nat) (hn : n < text.length) (_hf : Fnd text data text[n]) (hok : OkR text[n]) (_hr : -9223372036854775808 ≤ (text[n]).n ∧ (text[n]).n < 9223372036854775808) (hk : (text[n]).k = 2) :
    Calls Tryd.prog 51 #[.pointer (some ⟨p, 0, none⟩), .int .i64 (n : Int)] w (CodeTo5 w) := by
  have hnS : n < S.length := by omega
  have hnU : n < U.length := by omega
  obtain ⟨Au, cu, rfl, hu⟩ := hP.ats.form
  obtain ⟨bu, ou, rfl, hbu, u0⟩ := u_at5 hu n hnU
  obtain ⟨Az, cz, rfl, hz⟩ := hP.szs.form
  obtain ⟨bz, oz, rfl, hbz, z0⟩ := z_at5 hz n hnS
  have hlt := hP.lt
  have c0 := (obj_cell hP.str 0).trans rfl
  obtain ⟨b, o, rfl, hb, x0, x1, x2, x3, x4, x5, x6⟩ := item_at hP.tx2 n hn
  have hmu : (n : Int) < (U.length : Int) := by omega
  have hmz : (n : Int) < (S.length : Int) := by omega
  have hnu : (n : Int) < (text.length : Int) := by omega
  have hul : U.length ≤ 1000000000000000 := by omega
  have hzl : S.length ≤ 1000000000000000 := by omega
  have hst := hP.str
  unfold OkR at hok
  obtain ⟨ok2, ok3, ok4, ok5, ok7, -⟩ := hok
  generalize (U[n] : Nat) = un at *
  generalize (S[n] : Int) = sn at *
  generalize text[n].k = v0 at *
  generalize text[n].s = v1 at *
  generalize text[n].op = v2 at *
  generalize text[n].rd = v3 at *
  generalize text[n].a = v4 at *
  generalize text[n].b = v5 at *
  generalize text[n].n = v6 at *
  clear hP hu hz hS hU
  subst hk
  obtain ⟨W2, hW2⟩ : ∃ W2, W2 = (w.alloc (.cells #[.int .i64 2, .string v1, .int .i64 v2, .int .i64 v3, .int .i64 v4, .int .i64 v5, .int .i64 v6] 61)).alloc (.cells #[.int .i64 v2, .int .i64 v3, .int .i64 v4, .int .i64 v5, .int .i64 v6] 32) := ⟨_, rfl⟩
  have hB2 : Below w.heap.size w W2 := by rw [hW2]; exact form2 w _ _
  have hx2 : W2.heap[w.heap.size]? = some (.cells #[.int .i64 2, .string v1, .int .i64 v2, .int .i64 v3, .int .i64 v4, .int .i64 v5, .int .i64 v6] 61 (0, 0)) := by rw [hW2]; exact obj_alloc (heap_alloc_new w _)
  have hr2 : W2.heap[w.heap.size + 1]? = some (.cells #[.int .i64 v2, .int .i64 v3, .int .i64 v4, .int .i64 v5, .int .i64 v6] 32 (0, 0)) := by rw [hW2]; exact heap_new2 w _ _
  have k0 := (obj_cell hx2 0).trans rfl
  have r0 := (obj_cell hr2 0).trans rfl
  have r1 := (obj_cell hr2 1).trans rfl
  have r2 := (obj_cell hr2 2).trans rfl
  have r3 := (obj_cell hr2 3).trans rfl
  have r4 := (obj_cell hr2 4).trans rfl
  have hxl := lt_of_block hx2
  have hrl := lt_of_block hr2
  have hst2 := (hB2.block p hlt).trans hst
  have d2 := (obj_cell hst2 2).trans rfl
  have d3 := (obj_cell hst2 3).trans rfl
  have hp2 := lt_of_block hst2
  have z2 := (hB2.cell (p := ⟨bz, oz + n, none⟩) hbz).trans z0
  have u2 := (hB2.cell (p := ⟨bu, ou + n, none⟩) hbu).trans u0
  have hbz2 := Nat.lt_of_lt_of_le hbz hB2.size
  have hbu2 := Nat.lt_of_lt_of_le hbu hB2.size
  have HW2 := Lib.hid hW2
  have H2 := Lib.hid (And.intro hB2 (And.intro hx2 (And.intro hr2 hst2)))
  clear hW2 hB2 hx2 hr2 hst2 hst z0 u0
  have hw : WordOk ⟨v2, v3, v4, v5, v6⟩ := by
    obtain ⟨h1, h2, h3, h4, h5⟩ := rightI_rng (ok2 rfl)
    exact wok ⟨by omega, h2⟩ h3 h4 h5
  have HW := Lib.hid hw
  clear hw ok2 ok3 ok4 ok5 ok7
  go_enter Tryd.func51, Tryd.ntmps51
  go_upto_region 4 with fail
  rw [← HW2.out]
  go_wp2_with fail
  go_ret
  exact ⟨_, _, rfl, OwnI.lit W2 _ H2.out.1.size ⟨v2, v3, v4, v5, v6⟩, by simp, fun i hi => by rw [List.mem_singleton] at hi; subst hi; exact HW.out, H2.out.1.alloc H2.out.1.size _⟩
set_option maxRecDepth 20000 in
set_option maxHeartbeats 8000000 in
theorem r5code_3 (hP : Ly B w p TA tc text DA dc data zv av S U) (hl : text.length + data.length ≤ 1000000000000000) (hS : S.length = text.length) (hU : U.length = text.length + data.length) (n : Nat) (hn : n < text.length) (_hf : Fnd text data text[n]) (hok : OkR text[n]) (hr : -9223372036854775808 ≤ (text[n]).n ∧ (text[n]).n < 9223372036854775808) (hk : (text[n]).k = 3) :
    Calls Tryd.prog 51 #[.pointer (some ⟨p, 0, none⟩), .int .i64 (n : Int)] w (CodeTo5 w) := by
  have hnS : n < S.length := by omega
  have hnU : n < U.length := by omega
  obtain ⟨Au, cu, rfl, hu⟩ := hP.ats.form
  obtain ⟨bu, ou, rfl, hbu, u0⟩ := u_at5 hu n hnU
  obtain ⟨Az, cz, rfl, hz⟩ := hP.szs.form
  obtain ⟨bz, oz, rfl, hbz, z0⟩ := z_at5 hz n hnS
  have hlt := hP.lt
  have c0 := (obj_cell hP.str 0).trans rfl
  obtain ⟨b, o, rfl, hb, x0, x1, x2, x3, x4, x5, x6⟩ := item_at hP.tx2 n hn
  have hmu : (n : Int) < (U.length : Int) := by omega
  have hmz : (n : Int) < (S.length : Int) := by omega
  have hnu : (n : Int) < (text.length : Int) := by omega
  have hul : U.length ≤ 1000000000000000 := by omega
  have hzl : S.length ≤ 1000000000000000 := by omega
  have hst := hP.str
  unfold OkR at hok
  obtain ⟨ok2, ok3, ok4, ok5, ok7, -⟩ := hok
  generalize (U[n] : Nat) = un at *
  generalize (S[n] : Int) = sn at *
  generalize text[n].k = v0 at *
  generalize text[n].s = v1 at *
  generalize text[n].op = v2 at *
  generalize text[n].rd = v3 at *
  generalize text[n].a = v4 at *
  generalize text[n].b = v5 at *
  generalize text[n].n = v6 at *
  clear hP hu hz hS hU
  subst hk
  obtain ⟨W2, hW2⟩ : ∃ W2, W2 = (w.alloc (.cells #[.int .i64 3, .string v1, .int .i64 v2, .int .i64 v3, .int .i64 v4, .int .i64 v5, .int .i64 v6] 61)).alloc (.cells #[.int .i64 v2, .int .i64 v3, .int .i64 v4, .int .i64 v5, .int .i64 v6] 32) := ⟨_, rfl⟩
  have hB2 : Below w.heap.size w W2 := by rw [hW2]; exact form2 w _ _
  have hx2 : W2.heap[w.heap.size]? = some (.cells #[.int .i64 3, .string v1, .int .i64 v2, .int .i64 v3, .int .i64 v4, .int .i64 v5, .int .i64 v6] 61 (0, 0)) := by rw [hW2]; exact obj_alloc (heap_alloc_new w _)
  have hr2 : W2.heap[w.heap.size + 1]? = some (.cells #[.int .i64 v2, .int .i64 v3, .int .i64 v4, .int .i64 v5, .int .i64 v6] 32 (0, 0)) := by rw [hW2]; exact heap_new2 w _ _
  have k0 := (obj_cell hx2 0).trans rfl
  have r0 := (obj_cell hr2 0).trans rfl
  have r1 := (obj_cell hr2 1).trans rfl
  have r2 := (obj_cell hr2 2).trans rfl
  have r3 := (obj_cell hr2 3).trans rfl
  have r4 := (obj_cell hr2 4).trans rfl
  have hxl := lt_of_block hx2
  have hrl := lt_of_block hr2
  have hst2 := (hB2.block p hlt).trans hst
  have d2 := (obj_cell hst2 2).trans rfl
  have d3 := (obj_cell hst2 3).trans rfl
  have hp2 := lt_of_block hst2
  have z2 := (hB2.cell (p := ⟨bz, oz + n, none⟩) hbz).trans z0
  have u2 := (hB2.cell (p := ⟨bu, ou + n, none⟩) hbu).trans u0
  have hbz2 := Nat.lt_of_lt_of_le hbz hB2.size
  have hbu2 := Nat.lt_of_lt_of_le hbu hB2.size
  have HW2 := Lib.hid hW2
  have H2 := Lib.hid (And.intro hB2 (And.intro hx2 (And.intro hr2 hst2)))
  clear hW2 hB2 hx2 hr2 hst2 hst z0 u0
  have hw := wordOk_liM 6 v3 (by have := ok3 rfl; omega) v6
  have HL := Lib.hid (fun W => rli_all v3 v6 W hr)
  have hll : (liL v3 v6).length ≤ 12 := liM_len 6 _ _
  have HW := Lib.hid (show (liL v3 v6).length ≤ 12 ∧ ∀ i ∈ liL v3 v6, WordOk i from ⟨hll, hw⟩)
  unfold LiTo at HL
  generalize liL v3 v6 = L at *
  clear hw hll hr ok2 ok3 ok4 ok5 ok7
  go_enter Tryd.func51, Tryd.ntmps51
  go_upto_region 4 with fail
  rw [← HW2.out]
  go_wp2_with (go_at_call 37
               with_reducible refine (HL.out _).mono ?_
               rintro e w3 ⟨v, rfl, hown, hB3⟩
               have H3 := Lib.hid (And.intro hown hB3)
               clear hown hB3)
  go_ret
  exact ⟨_, _, rfl, H3.out.1.base H2.out.1.size, (by have := HW.out.1; omega), HW.out.2, H2.out.1.trans (H3.out.2.mono H2.out.1.size)⟩
set_option maxRecDepth 20000 in
set_option maxHeartbeats 8000000 in
theorem r5code_4 (hP : Ly B w p TA tc text DA dc data zv av S U) (hl : text.length + data.length ≤ 1000000000000000) (hS : S.length = text.length) (hU : U.length = text.length + data.length) (n : Nat) (hn : n < text.length) (hf : Fnd text data text[n]) (hok : OkR text[n]) (_hr : -9223372036854775808 ≤ (text[n]).n ∧ (text[n]).n < 9223372036854775808) (hk : (text[n]).k = 4) :
    Calls Tryd.prog 51 #[.pointer (some ⟨p, 0, none⟩), .int .i64 (n : Int)] w (CodeTo5 w) := by
  have hnS : n < S.length := by omega
  have hnU : n < U.length := by omega
  have HF0 := fun W (hW : Below w.heap.size w W) (frm : Int) => r5far_any B W p TA tc text DA dc data zv av S U (hP.keep hW) hl hU n hn (hf (by unfold refK; omega)) frm
  obtain ⟨Au, cu, rfl, hu⟩ := hP.ats.form
  obtain ⟨bu, ou, rfl, hbu, u0⟩ := u_at5 hu n hnU
  obtain ⟨Az, cz, rfl, hz⟩ := hP.szs.form
  obtain ⟨bz, oz, rfl, hbz, z0⟩ := z_at5 hz n hnS
  have hlt := hP.lt
  have c0 := (obj_cell hP.str 0).trans rfl
  obtain ⟨b, o, rfl, hb, x0, x1, x2, x3, x4, x5, x6⟩ := item_at hP.tx2 n hn
  have hmu : (n : Int) < (U.length : Int) := by omega
  have hmz : (n : Int) < (S.length : Int) := by omega
  have hnu : (n : Int) < (text.length : Int) := by omega
  have hul : U.length ≤ 1000000000000000 := by omega
  have hzl : S.length ≤ 1000000000000000 := by omega
  have hst := hP.str
  unfold OkR at hok
  obtain ⟨ok2, ok3, ok4, ok5, ok7, -⟩ := hok
  generalize (U[n] : Nat) = un at *
  generalize (S[n] : Int) = sn at *
  generalize text[n].k = v0 at *
  generalize text[n].s = v1 at *
  generalize text[n].op = v2 at *
  generalize text[n].rd = v3 at *
  generalize text[n].a = v4 at *
  generalize text[n].b = v5 at *
  generalize text[n].n = v6 at *
  clear hP hu hz hS hU
  subst hk
  obtain ⟨W2, hW2⟩ : ∃ W2, W2 = (w.alloc (.cells #[.int .i64 4, .string v1, .int .i64 v2, .int .i64 v3, .int .i64 v4, .int .i64 v5, .int .i64 v6] 61)).alloc (.cells #[.int .i64 v2, .int .i64 v3, .int .i64 v4, .int .i64 v5, .int .i64 v6] 32) := ⟨_, rfl⟩
  have hB2 : Below w.heap.size w W2 := by rw [hW2]; exact form2 w _ _
  have hx2 : W2.heap[w.heap.size]? = some (.cells #[.int .i64 4, .string v1, .int .i64 v2, .int .i64 v3, .int .i64 v4, .int .i64 v5, .int .i64 v6] 61 (0, 0)) := by rw [hW2]; exact obj_alloc (heap_alloc_new w _)
  have hr2 : W2.heap[w.heap.size + 1]? = some (.cells #[.int .i64 v2, .int .i64 v3, .int .i64 v4, .int .i64 v5, .int .i64 v6] 32 (0, 0)) := by rw [hW2]; exact heap_new2 w _ _
  have k0 := (obj_cell hx2 0).trans rfl
  have r0 := (obj_cell hr2 0).trans rfl
  have r1 := (obj_cell hr2 1).trans rfl
  have r2 := (obj_cell hr2 2).trans rfl
  have r3 := (obj_cell hr2 3).trans rfl
  have r4 := (obj_cell hr2 4).trans rfl
  have hxl := lt_of_block hx2
  have hrl := lt_of_block hr2
  have hst2 := (hB2.block p hlt).trans hst
  have d2 := (obj_cell hst2 2).trans rfl
  have d3 := (obj_cell hst2 3).trans rfl
  have hp2 := lt_of_block hst2
  have z2 := (hB2.cell (p := ⟨bz, oz + n, none⟩) hbz).trans z0
  have u2 := (hB2.cell (p := ⟨bu, ou + n, none⟩) hbu).trans u0
  have hbz2 := Nat.lt_of_lt_of_le hbz hB2.size
  have hbu2 := Nat.lt_of_lt_of_le hbu hB2.size
  have HW2 := Lib.hid hW2
  have H2 := Lib.hid (And.intro hB2 (And.intro hx2 (And.intro hr2 hst2)))
  clear hW2 hB2 hx2 hr2 hst2 hst z0 u0
  have hpr := fun W (o : Int) => r5pair_any o v3 22 v3 v3 0 0 (by have := ok4 (.inl rfl); omega) (wok (by decide) (by have := ok4 (.inl rfl); omega) (by have := ok4 (.inl rfl); omega) (by decide)) W
  have HPr := Lib.hid hpr
  have HF := Lib.hid HF0
  have hB2d : Below w.heap.size w W2.drew := H2.out.1.drew
  clear hpr HF0 ok2 ok3 ok4 ok5 ok7
  go_enter Tryd.func51, Tryd.ntmps51
  go_upto_region 4 with fail
  rw [← HW2.out]
  go_upto_region 9 with fail
  go_region_held3 (fun W' => W'.cell? ⟨p, 3, none⟩ = some (.slice (some ⟨bu, ou, none⟩) U.length cu) ∧ W'.cell? ⟨bu, ou + n, none⟩ = some (.int .u64 (un : Int)) ∧ W'.cell? ⟨w.heap.size + 1, 1, none⟩ = some (.int .i64 v3))
    (first | exact ⟨d3, u2, r1⟩ | exact ⟨d3', u2', r1'⟩ | exact ⟨d3'', u2'', r1''⟩)
    (first
      | (go_at_call 84
         refine Calls.mono (HF.out W2.drew hB2d _) ?_
         rintro e w3 ⟨z, rfl, hB3⟩
         have hB03 := hB2d.trans (hB3.mono hB2d.size)
         have hB23 : Below W2.heap.size W2 w3 := ((Below.refl W2.heap.size W2).drew).trans (hB3.mono (Nat.le_refl _))
         have d3' := (hB23.cell (p := ⟨p, 3, none⟩) hp2).trans d3
         have u2' := (hB23.cell (p := ⟨bu, ou + n, none⟩) hbu2).trans u2
         have r1' := (hB23.cell (p := ⟨w.heap.size + 1, 1, none⟩) hrl).trans r1)
      | (go_at_call 86
         refine Calls.mono (HPr.out w3 _) ?_
         rintro e w4 ⟨v, l, rfl, hown, hll, hwk, hB4⟩
         have hB24 : Below W2.heap.size W2 w4 := hB23.trans (hB4.mono hB23.size)
         have d3'' := (hB24.cell (p := ⟨p, 3, none⟩) hp2).trans d3
         have u2'' := (hB24.cell (p := ⟨bu, ou + n, none⟩) hbu2).trans u2
         have r1'' := (hB24.cell (p := ⟨w.heap.size + 1, 1, none⟩) hrl).trans r1))
  go_wp2_with fail
  go_ret
  exact ⟨_, _, rfl, hown.base hB03.size, (by omega), hwk, hB03.trans (hB4.mono hB03.size)⟩
set_option maxRecDepth 20000 in
set_option maxHeartbeats 8000000 in
theorem r5code_5 (hP : Ly B w p TA tc text DA dc data zv av S U) (hl : text.length + data.length ≤ 1000000000000000) (hS : S.length = text.length) (hU : U.length = text.length + data.length) (n : Nat) (hn : n < text.length) (hf : Fnd text data text[n]) (hok : OkR text[n]) (_hr : -9223372036854775808 ≤ (text[n]).n ∧ (text[n]).n < 9223372036854775808) (hk : (text[n]).k = 5) :
    Calls Tryd.prog 51 #[.pointer (some ⟨p, 0, none⟩), .int .i64 (n : Int)] w (CodeTo5 w) := by
  have hnS : n < S.length := by omega
  have hnU : n < U.length := by omega
  have HF0 := fun W (hW : Below w.heap.size w W) (frm : Int) => r5far_any B W p TA tc text DA dc data zv av S U (hP.keep hW) hl hU n hn (hf (by unfold refK; omega)) frm
  obtain ⟨Au, cu, rfl, hu⟩ := hP.ats.form
  obtain ⟨bu, ou, rfl, hbu, u0⟩ := u_at5 hu n hnU
  obtain ⟨Az, cz, rfl, hz⟩ := hP.szs.form
  obtain ⟨bz, oz, rfl, hbz, z0⟩ := z_at5 hz n hnS
  have hlt := hP.lt
  have c0 := (obj_cell hP.str 0).trans rfl
  obtain ⟨b, o, rfl, hb, x0, x1, x2, x3, x4, x5, x6⟩ := item_at hP.tx2 n hn
  have hmu : (n : Int) < (U.length : Int) := by omega
  have hmz : (n : Int) < (S.length : Int) := by omega
  have hnu : (n : Int) < (text.length : Int) := by omega
  have hul : U.length ≤ 1000000000000000 := by omega
  have hzl : S.length ≤ 1000000000000000 := by omega
  have hst := hP.str
  unfold OkR at hok
  obtain ⟨ok2, ok3, ok4, ok5, ok7, -⟩ := hok
  generalize (U[n] : Nat) = un at *
  generalize (S[n] : Int) = sn at *
  generalize text[n].k = v0 at *
  generalize text[n].s = v1 at *
  generalize text[n].op = v2 at *
  generalize text[n].rd = v3 at *
  generalize text[n].a = v4 at *
  generalize text[n].b = v5 at *
  generalize text[n].n = v6 at *
  clear hP hu hz hS hU
  subst hk
  obtain ⟨W2, hW2⟩ : ∃ W2, W2 = (w.alloc (.cells #[.int .i64 5, .string v1, .int .i64 v2, .int .i64 v3, .int .i64 v4, .int .i64 v5, .int .i64 v6] 61)).alloc (.cells #[.int .i64 v2, .int .i64 v3, .int .i64 v4, .int .i64 v5, .int .i64 v6] 32) := ⟨_, rfl⟩
  have hB2 : Below w.heap.size w W2 := by rw [hW2]; exact form2 w _ _
  have hx2 : W2.heap[w.heap.size]? = some (.cells #[.int .i64 5, .string v1, .int .i64 v2, .int .i64 v3, .int .i64 v4, .int .i64 v5, .int .i64 v6] 61 (0, 0)) := by rw [hW2]; exact obj_alloc (heap_alloc_new w _)
  have hr2 : W2.heap[w.heap.size + 1]? = some (.cells #[.int .i64 v2, .int .i64 v3, .int .i64 v4, .int .i64 v5, .int .i64 v6] 32 (0, 0)) := by rw [hW2]; exact heap_new2 w _ _
  have k0 := (obj_cell hx2 0).trans rfl
  have r0 := (obj_cell hr2 0).trans rfl
  have r1 := (obj_cell hr2 1).trans rfl
  have r2 := (obj_cell hr2 2).trans rfl
  have r3 := (obj_cell hr2 3).trans rfl
  have r4 := (obj_cell hr2 4).trans rfl
  have hxl := lt_of_block hx2
  have hrl := lt_of_block hr2
  have hst2 := (hB2.block p hlt).trans hst
  have d2 := (obj_cell hst2 2).trans rfl
  have d3 := (obj_cell hst2 3).trans rfl
  have hp2 := lt_of_block hst2
  have z2 := (hB2.cell (p := ⟨bz, oz + n, none⟩) hbz).trans z0
  have u2 := (hB2.cell (p := ⟨bu, ou + n, none⟩) hbu).trans u0
  have hbz2 := Nat.lt_of_lt_of_le hbz hB2.size
  have hbu2 := Nat.lt_of_lt_of_le hbu hB2.size
  have HW2 := Lib.hid hW2
  have H2 := Lib.hid (And.intro hB2 (And.intro hx2 (And.intro hr2 hst2)))
  clear hW2 hB2 hx2 hr2 hst2 hst z0 u0
  have hrd : 0 ≤ v3 ∧ v3 < 32 := by have := ok5 rfl; omega
  have hpr := fun W (o : Int) => r5pair_any o 6 4 v3 6 0 0 (by omega) (wok (by decide) hrd (by first | exact hrd | decide) (by decide)) W
  have HPr := Lib.hid hpr
  have HRD := Lib.hid hrd
  have HF := Lib.hid HF0
  clear hpr hrd HF0 ok2 ok3 ok4 ok5 ok7
  by_cases h4 : sn = 4
  · have t4 : (sn == 4) = true := by simpa using h4
    clear h4
    go_enter Tryd.func51, Tryd.ntmps51
    go_upto_region 4 with fail
    rw [← HW2.out]
    go_wp2_with fail
    with_reducible refine Calls.mono (HF.out _ H2.out.1 _) ?_
    rintro e w3 ⟨z, rfl, hB3⟩
    have hB03 := H2.out.1.trans (hB3.mono H2.out.1.size)
    have hB23 : Below W2.heap.size W2 w3 := hB3
    have hx3 := (hB23.block _ hxl).trans H2.out.2.1
    have hr3 := (hB23.block _ hrl).trans H2.out.2.2.1
    have hst3 := (hB23.block _ hp2).trans H2.out.2.2.2
    have k0' := (obj_cell hx3 0).trans rfl
    have r0' := (obj_cell hr3 0).trans rfl
    have r1' := (obj_cell hr3 1).trans rfl
    have r2' := (obj_cell hr3 2).trans rfl
    have r3' := (obj_cell hr3 3).trans rfl
    have r4' := (obj_cell hr3 4).trans rfl
    have f0 := obj_frozen hr3 0
    have f4 := obj_frozen hr3 4
    have d2' := (obj_cell hst3 2).trans rfl
    have hx3l := lt_of_block hx3
    have hr3l := lt_of_block hr3
    have hp3 := lt_of_block hst3
    have z2' := (hB23.cell (p := ⟨bz, oz + n, none⟩) hbz2).trans z2
    have hbz3 := Nat.lt_of_lt_of_le hbz2 hB23.size
    have H3 := Lib.hid (And.intro hB03 hr3)
    clear hB03 hB23 hx3 hr3 hst3 hB3
    go_wp2_with fail
    go_ret
    exact ⟨_, _, rfl, OwnI.lit w3 _ H3.out.1.size ⟨3, v3, 0, 0, z⟩, by simp, fun i hi => (by rw [List.mem_singleton] at hi; subst hi; exact wok (by decide) HRD.out (by decide) (by decide)), H3.out.1.alloc H3.out.1.size _⟩
  · have t4 : (sn == 4) = false := by simpa using h4
    clear h4
    go_enter Tryd.func51, Tryd.ntmps51
    go_upto_region 4 with fail
    rw [← HW2.out]
    go_wp2_with fail
    with_reducible refine Calls.mono (HF.out _ H2.out.1 _) ?_
    rintro e w3 ⟨z, rfl, hB3⟩
    have hB03 := H2.out.1.trans (hB3.mono H2.out.1.size)
    have hB23 : Below W2.heap.size W2 w3 := hB3
    have hx3 := (hB23.block _ hxl).trans H2.out.2.1
    have hr3 := (hB23.block _ hrl).trans H2.out.2.2.1
    have hst3 := (hB23.block _ hp2).trans H2.out.2.2.2
    have k0' := (obj_cell hx3 0).trans rfl
    have r0' := (obj_cell hr3 0).trans rfl
    have r1' := (obj_cell hr3 1).trans rfl
    have r2' := (obj_cell hr3 2).trans rfl
    have r3' := (obj_cell hr3 3).trans rfl
    have r4' := (obj_cell hr3 4).trans rfl
    have f0 := obj_frozen hr3 0
    have f4 := obj_frozen hr3 4
    have d2' := (obj_cell hst3 2).trans rfl
    have hx3l := lt_of_block hx3
    have hr3l := lt_of_block hr3
    have hp3 := lt_of_block hst3
    have z2' := (hB23.cell (p := ⟨bz, oz + n, none⟩) hbz2).trans z2
    have hbz3 := Nat.lt_of_lt_of_le hbz2 hB23.size
    have H3 := Lib.hid (And.intro hB03 hr3)
    clear hB03 hB23 hx3 hr3 hst3 hB3
    go_wp2_with fail
    with_reducible refine Calls.mono (HPr.out _ _) ?_
    rintro e w4 ⟨v, l, rfl, hown, hll, hwk, hB4⟩
    have H4 := Lib.hid (And.intro hown (And.intro hll (And.intro hwk hB4)))
    clear hown hll hwk hB4
    go_wp2_with fail
    go_ret
    exact ⟨_, _, rfl, H4.out.1.base H3.out.1.size, (by have := H4.out.2.1; omega), H4.out.2.2.1, H3.out.1.trans (H4.out.2.2.2.mono H3.out.1.size)⟩
set_option maxRecDepth 20000 in
set_option maxHeartbeats 8000000 in
theorem r5code_6 (hP : Ly B w p TA tc text DA dc data zv av S U) (hl : text.length + data.length ≤ 1000000000000000) (hS : S.length = text.length) (hU : U.length = text.length + data.length) (n : Nat) (hn : n < text.length) (hf : Fnd text data text[n]) (hok : OkR text[n]) (_hr : -9223372036854775808 ≤ (text[n]).n ∧ (text[n]).n < 9223372036854775808) (hk : (text[n]).k = 6) :
    Calls Tryd.prog 51 #[.pointer (some ⟨p, 0, none⟩), .int .i64 (n : Int)] w (CodeTo5 w) := by
  have hnS : n < S.length := by omega
  have hnU : n < U.length := by omega
  have HF0 := fun W (hW : Below w.heap.size w W) (frm : Int) => r5far_any B W p TA tc text DA dc data zv av S U (hP.keep hW) hl hU n hn (hf (by unfold refK; omega)) frm
  obtain ⟨Au, cu, rfl, hu⟩ := hP.ats.form
  obtain ⟨bu, ou, rfl, hbu, u0⟩ := u_at5 hu n hnU
  obtain ⟨Az, cz, rfl, hz⟩ := hP.szs.form
  obtain ⟨bz, oz, rfl, hbz, z0⟩ := z_at5 hz n hnS
  have hlt := hP.lt
  have c0 := (obj_cell hP.str 0).trans rfl
  obtain ⟨b, o, rfl, hb, x0, x1, x2, x3, x4, x5, x6⟩ := item_at hP.tx2 n hn
  have hmu : (n : Int) < (U.length : Int) := by omega
  have hmz : (n : Int) < (S.length : Int) := by omega
  have hnu : (n : Int) < (text.length : Int) := by omega
  have hul : U.length ≤ 1000000000000000 := by omega
  have hzl : S.length ≤ 1000000000000000 := by omega
  have hst := hP.str
  unfold OkR at hok
  obtain ⟨ok2, ok3, ok4, ok5, ok7, -⟩ := hok
  generalize (U[n] : Nat) = un at *
  generalize (S[n] : Int) = sn at *
  generalize text[n].k = v0 at *
  generalize text[n].s = v1 at *
  generalize text[n].op = v2 at *
  generalize text[n].rd = v3 at *
  generalize text[n].a = v4 at *
  generalize text[n].b = v5 at *
  generalize text[n].n = v6 at *
  clear hP hu hz hS hU
  subst hk
  obtain ⟨W2, hW2⟩ : ∃ W2, W2 = (w.alloc (.cells #[.int .i64 6, .string v1, .int .i64 v2, .int .i64 v3, .int .i64 v4, .int .i64 v5, .int .i64 v6] 61)).alloc (.cells #[.int .i64 v2, .int .i64 v3, .int .i64 v4, .int .i64 v5, .int .i64 v6] 32) := ⟨_, rfl⟩
  have hB2 : Below w.heap.size w W2 := by rw [hW2]; exact form2 w _ _
  have hx2 : W2.heap[w.heap.size]? = some (.cells #[.int .i64 6, .string v1, .int .i64 v2, .int .i64 v3, .int .i64 v4, .int .i64 v5, .int .i64 v6] 61 (0, 0)) := by rw [hW2]; exact obj_alloc (heap_alloc_new w _)
  have hr2 : W2.heap[w.heap.size + 1]? = some (.cells #[.int .i64 v2, .int .i64 v3, .int .i64 v4, .int .i64 v5, .int .i64 v6] 32 (0, 0)) := by rw [hW2]; exact heap_new2 w _ _
  have k0 := (obj_cell hx2 0).trans rfl
  have r0 := (obj_cell hr2 0).trans rfl
  have r1 := (obj_cell hr2 1).trans rfl
  have r2 := (obj_cell hr2 2).trans rfl
  have r3 := (obj_cell hr2 3).trans rfl
  have r4 := (obj_cell hr2 4).trans rfl
  have hxl := lt_of_block hx2
  have hrl := lt_of_block hr2
  have hst2 := (hB2.block p hlt).trans hst
  have d2 := (obj_cell hst2 2).trans rfl
  have d3 := (obj_cell hst2 3).trans rfl
  have hp2 := lt_of_block hst2
  have z2 := (hB2.cell (p := ⟨bz, oz + n, none⟩) hbz).trans z0
  have u2 := (hB2.cell (p := ⟨bu, ou + n, none⟩) hbu).trans u0
  have hbz2 := Nat.lt_of_lt_of_le hbz hB2.size
  have hbu2 := Nat.lt_of_lt_of_le hbu hB2.size
  have HW2 := Lib.hid hW2
  have H2 := Lib.hid (And.intro hB2 (And.intro hx2 (And.intro hr2 hst2)))
  clear hW2 hB2 hx2 hr2 hst2 hst z0 u0
  have hrd : 0 ≤ v3 ∧ v3 < 32 := by have := ok4 (.inr rfl); omega
  have hpr := fun W (o : Int) => r5pair_any o v3 4 v3 v3 0 0 (by omega) (wok (by decide) hrd (by first | exact hrd | decide) (by decide)) W
  have HPr := Lib.hid hpr
  have HRD := Lib.hid hrd
  have HF := Lib.hid HF0
  clear hpr hrd HF0 ok2 ok3 ok4 ok5 ok7
  by_cases h4 : sn = 4
  · have t4 : (sn == 4) = true := by simpa using h4
    clear h4
    go_enter Tryd.func51, Tryd.ntmps51
    go_upto_region 4 with fail
    rw [← HW2.out]
    go_wp2_with fail
    with_reducible refine Calls.mono (HF.out _ H2.out.1 _) ?_
    rintro e w3 ⟨z, rfl, hB3⟩
    have hB03 := H2.out.1.trans (hB3.mono H2.out.1.size)
    have hB23 : Below W2.heap.size W2 w3 := hB3
    have hx3 := (hB23.block _ hxl).trans H2.out.2.1
    have hr3 := (hB23.block _ hrl).trans H2.out.2.2.1
    have hst3 := (hB23.block _ hp2).trans H2.out.2.2.2
    have k0' := (obj_cell hx3 0).trans rfl
    have r0' := (obj_cell hr3 0).trans rfl
    have r1' := (obj_cell hr3 1).trans rfl
    have r2' := (obj_cell hr3 2).trans rfl
    have r3' := (obj_cell hr3 3).trans rfl
    have r4' := (obj_cell hr3 4).trans rfl
    have f0 := obj_frozen hr3 0
    have f4 := obj_frozen hr3 4
    have d2' := (obj_cell hst3 2).trans rfl
    have hx3l := lt_of_block hx3
    have hr3l := lt_of_block hr3
    have hp3 := lt_of_block hst3
    have z2' := (hB23.cell (p := ⟨bz, oz + n, none⟩) hbz2).trans z2
    have hbz3 := Nat.lt_of_lt_of_le hbz2 hB23.size
    have H3 := Lib.hid (And.intro hB03 hr3)
    clear hB03 hB23 hx3 hr3 hst3 hB3
    go_wp2_with fail
    go_ret
    exact ⟨_, _, rfl, OwnI.lit w3 _ H3.out.1.size ⟨3, v3, 0, 0, z⟩, by simp, fun i hi => (by rw [List.mem_singleton] at hi; subst hi; exact wok (by decide) HRD.out (by decide) (by decide)), H3.out.1.alloc H3.out.1.size _⟩
  · have t4 : (sn == 4) = false := by simpa using h4
    clear h4
    go_enter Tryd.func51, Tryd.ntmps51
    go_upto_region 4 with fail
    rw [← HW2.out]
    go_wp2_with fail
    with_reducible refine Calls.mono (HF.out _ H2.out.1 _) ?_
    rintro e w3 ⟨z, rfl, hB3⟩
    have hB03 := H2.out.1.trans (hB3.mono H2.out.1.size)
    have hB23 : Below W2.heap.size W2 w3 := hB3
    have hx3 := (hB23.block _ hxl).trans H2.out.2.1
    have hr3 := (hB23.block _ hrl).trans H2.out.2.2.1
    have hst3 := (hB23.block _ hp2).trans H2.out.2.2.2
    have k0' := (obj_cell hx3 0).trans rfl
    have r0' := (obj_cell hr3 0).trans rfl
    have r1' := (obj_cell hr3 1).trans rfl
    have r2' := (obj_cell hr3 2).trans rfl
    have r3' := (obj_cell hr3 3).trans rfl
    have r4' := (obj_cell hr3 4).trans rfl
    have f0 := obj_frozen hr3 0
    have f4 := obj_frozen hr3 4
    have d2' := (obj_cell hst3 2).trans rfl
    have hx3l := lt_of_block hx3
    have hr3l := lt_of_block hr3
    have hp3 := lt_of_block hst3
    have z2' := (hB23.cell (p := ⟨bz, oz + n, none⟩) hbz2).trans z2
    have hbz3 := Nat.lt_of_lt_of_le hbz2 hB23.size
    have H3 := Lib.hid (And.intro hB03 hr3)
    clear hB03 hB23 hx3 hr3 hst3 hB3
    go_wp2_with fail
    with_reducible refine Calls.mono (HPr.out _ _) ?_
    rintro e w4 ⟨v, l, rfl, hown, hll, hwk, hB4⟩
    have H4 := Lib.hid (And.intro hown (And.intro hll (And.intro hwk hB4)))
    clear hown hll hwk hB4
    go_wp2_with fail
    go_ret
    exact ⟨_, _, rfl, H4.out.1.base H3.out.1.size, (by have := H4.out.2.1; omega), H4.out.2.2.1, H3.out.1.trans (H4.out.2.2.2.mono H3.out.1.size)⟩
set_option maxRecDepth 20000 in
set_option maxHeartbeats 8000000 in
theorem r5code_7 (hP : Ly B w p TA tc text DA dc data zv av S U) (hl : text.length + data.length ≤ 1000000000000000) (hS : S.length = text.length) (hU : U.length = text.length + data.length) (n : Nat) (hn : n < text.length) (hf : Fnd text data text[n]) (hok : OkR text[n]) (_hr : -9223372036854775808 ≤ (text[n]).n ∧ (text[n]).n < 9223372036854775808) (hk : (text[n]).k = 7) :
    Calls Tryd.prog 51 #[.pointer (some ⟨p, 0, none⟩), .int .i64 (n : Int)] w (CodeTo5 w) := by
  have hnS : n < S.length := by omega
  have hnU : n < U.length := by omega
  have HF0 := fun W (hW : Below w.heap.size w W) (frm : Int) => r5far_any B W p TA tc text DA dc data zv av S U (hP.keep hW) hl hU n hn (hf (by unfold refK; omega)) frm
  obtain ⟨Au, cu, rfl, hu⟩ := hP.ats.form
  obtain ⟨bu, ou, rfl, hbu, u0⟩ := u_at5 hu n hnU
  obtain ⟨Az, cz, rfl, hz⟩ := hP.szs.form
  obtain ⟨bz, oz, rfl, hbz, z0⟩ := z_at5 hz n hnS
  have hlt := hP.lt
  have c0 := (obj_cell hP.str 0).trans rfl
  obtain ⟨b, o, rfl, hb, x0, x1, x2, x3, x4, x5, x6⟩ := item_at hP.tx2 n hn
  have hmu : (n : Int) < (U.length : Int) := by omega
  have hmz : (n : Int) < (S.length : Int) := by omega
  have hnu : (n : Int) < (text.length : Int) := by omega
  have hul : U.length ≤ 1000000000000000 := by omega
  have hzl : S.length ≤ 1000000000000000 := by omega
  have hst := hP.str
  unfold OkR at hok
  obtain ⟨ok2, ok3, ok4, ok5, ok7, -⟩ := hok
  generalize (U[n] : Nat) = un at *
  generalize (S[n] : Int) = sn at *
  generalize text[n].k = v0 at *
  generalize text[n].s = v1 at *
  generalize text[n].op = v2 at *
  generalize text[n].rd = v3 at *
  generalize text[n].a = v4 at *
  generalize text[n].b = v5 at *
  generalize text[n].n = v6 at *
  clear hP hu hz hS hU
  subst hk
  obtain ⟨W2, hW2⟩ : ∃ W2, W2 = (w.alloc (.cells #[.int .i64 7, .string v1, .int .i64 v2, .int .i64 v3, .int .i64 v4, .int .i64 v5, .int .i64 v6] 61)).alloc (.cells #[.int .i64 v2, .int .i64 v3, .int .i64 v4, .int .i64 v5, .int .i64 v6] 32) := ⟨_, rfl⟩
  have hB2 : Below w.heap.size w W2 := by rw [hW2]; exact form2 w _ _
  have hx2 : W2.heap[w.heap.size]? = some (.cells #[.int .i64 7, .string v1, .int .i64 v2, .int .i64 v3, .int .i64 v4, .int .i64 v5, .int .i64 v6] 61 (0, 0)) := by rw [hW2]; exact obj_alloc (heap_alloc_new w _)
  have hr2 : W2.heap[w.heap.size + 1]? = some (.cells #[.int .i64 v2, .int .i64 v3, .int .i64 v4, .int .i64 v5, .int .i64 v6] 32 (0, 0)) := by rw [hW2]; exact heap_new2 w _ _
  have k0 := (obj_cell hx2 0).trans rfl
  have r0 := (obj_cell hr2 0).trans rfl
  have r1 := (obj_cell hr2 1).trans rfl
  have r2 := (obj_cell hr2 2).trans rfl
  have r3 := (obj_cell hr2 3).trans rfl
  have r4 := (obj_cell hr2 4).trans rfl
  have hxl := lt_of_block hx2
  have hrl := lt_of_block hr2
  have hst2 := (hB2.block p hlt).trans hst
  have d2 := (obj_cell hst2 2).trans rfl
  have d3 := (obj_cell hst2 3).trans rfl
  have hp2 := lt_of_block hst2
  have z2 := (hB2.cell (p := ⟨bz, oz + n, none⟩) hbz).trans z0
  have u2 := (hB2.cell (p := ⟨bu, ou + n, none⟩) hbu).trans u0
  have hbz2 := Nat.lt_of_lt_of_le hbz hB2.size
  have hbu2 := Nat.lt_of_lt_of_le hbu hB2.size
  have HW2 := Lib.hid hW2
  have H2 := Lib.hid (And.intro hB2 (And.intro hx2 (And.intro hr2 hst2)))
  clear hW2 hB2 hx2 hr2 hst2 hst z0 u0
  obtain ⟨o1, o2, o3, o4, o5⟩ := ok7 rfl
  subst o3
  have HA := Lib.hid (fun W => r5turned_any v2 ⟨o1, o2⟩ W)
  have hpr := fun W (o : Int) => r5pair_any o 6 4 0 6 0 0 (by decide) (wok (by decide) (by decide) (by decide) (by decide)) W
  have HPr := Lib.hid hpr
  have HRD := Lib.hid (show ∀ z i : Int, 5 ≤ z ∧ z ≤ 10 → WordOk ⟨z, 0, v4, v5, i⟩ from fun z i hz => wok (by omega) (by omega) (by omega) (by omega))
  have HO := Lib.hid (And.intro o1 o2)
  have HF := Lib.hid HF0
  clear hpr HF0 ok2 ok3 ok4 ok5 ok7 o1 o2 o4 o5
  by_cases h4 : sn = 4
  · have t4 : (sn == 4) = true := by simpa using h4
    clear h4
    go_enter Tryd.func51, Tryd.ntmps51
    go_upto_region 4 with fail
    rw [← HW2.out]
    go_wp2_with fail
    with_reducible refine Calls.mono (HF.out _ H2.out.1 _) ?_
    rintro e w3 ⟨z, rfl, hB3⟩
    have hB03 := H2.out.1.trans (hB3.mono H2.out.1.size)
    have hB23 : Below W2.heap.size W2 w3 := hB3
    have hx3 := (hB23.block _ hxl).trans H2.out.2.1
    have hr3 := (hB23.block _ hrl).trans H2.out.2.2.1
    have hst3 := (hB23.block _ hp2).trans H2.out.2.2.2
    have k0' := (obj_cell hx3 0).trans rfl
    have r0' := (obj_cell hr3 0).trans rfl
    have r1' := (obj_cell hr3 1).trans rfl
    have r2' := (obj_cell hr3 2).trans rfl
    have r3' := (obj_cell hr3 3).trans rfl
    have r4' := (obj_cell hr3 4).trans rfl
    have f0 := obj_frozen hr3 0
    have f4 := obj_frozen hr3 4
    have d2' := (obj_cell hst3 2).trans rfl
    have hx3l := lt_of_block hx3
    have hr3l := lt_of_block hr3
    have hp3 := lt_of_block hst3
    have z2' := (hB23.cell (p := ⟨bz, oz + n, none⟩) hbz2).trans z2
    have hbz3 := Nat.lt_of_lt_of_le hbz2 hB23.size
    have H3 := Lib.hid (And.intro hB03 hr3)
    clear hB03 hB23 hx3 hr3 hst3 hB3
    go_wp2_with fail
    go_ret
    have hBs := H3.out.1.setCell (p := ⟨w.heap.size + 1, 4, none⟩) (show w.heap.size ≤ w.heap.size + 1 by omega) (.int .i64 z)
    exact ⟨_, [⟨v2, 0, v4, v5, z⟩], rfl, own_lits _ _ hBs.size _ (size_setCell5 _ _ _).symm ⟨v2, 0, v4, v5, z⟩, by simp, fun i hi => (by rw [List.mem_singleton] at hi; subst hi; exact HRD.out _ _ HO.out), hBs.alloc hBs.size _⟩
  · have t4 : (sn == 4) = false := by simpa using h4
    clear h4
    by_cases h8 : sn = 8
    · have t8 : (sn == 8) = true := by simpa using h8
      clear h8
      go_enter Tryd.func51, Tryd.ntmps51
      go_upto_region 4 with fail
      rw [← HW2.out]
      go_wp2_with fail
      with_reducible refine Calls.mono (HF.out _ H2.out.1 _) ?_
      rintro e w3 ⟨z, rfl, hB3⟩
      have hB03 := H2.out.1.trans (hB3.mono H2.out.1.size)
      have hB23 : Below W2.heap.size W2 w3 := hB3
      have hx3 := (hB23.block _ hxl).trans H2.out.2.1
      have hr3 := (hB23.block _ hrl).trans H2.out.2.2.1
      have hst3 := (hB23.block _ hp2).trans H2.out.2.2.2
      have k0' := (obj_cell hx3 0).trans rfl
      have r0' := (obj_cell hr3 0).trans rfl
      have r1' := (obj_cell hr3 1).trans rfl
      have r2' := (obj_cell hr3 2).trans rfl
      have r3' := (obj_cell hr3 3).trans rfl
      have r4' := (obj_cell hr3 4).trans rfl
      have f0 := obj_frozen hr3 0
      have f4 := obj_frozen hr3 4
      have d2' := (obj_cell hst3 2).trans rfl
      have hx3l := lt_of_block hx3
      have hr3l := lt_of_block hr3
      have hp3 := lt_of_block hst3
      have z2' := (hB23.cell (p := ⟨bz, oz + n, none⟩) hbz2).trans z2
      have hbz3 := Nat.lt_of_lt_of_le hbz2 hB23.size
      have H3 := Lib.hid (And.intro hB03 hr3)
      clear hB03 hB23 hx3 hr3 hst3 hB3
      go_wp2_with (go_at_call 87; (with_reducible refine (HA.out _).mono ?_); rintro e w4 ⟨t, rfl, ht, rfl⟩)
      go_ret
      have hBs := (H3.out.1.setCell (p := ⟨w.heap.size + 1, 0, none⟩) (show w.heap.size ≤ w.heap.size + 1 by omega) (.int .i64 t)).setCell (p := ⟨w.heap.size + 1, 4, none⟩) (show w.heap.size ≤ w.heap.size + 1 by omega) (.int .i64 sn)
      exact ⟨_, [⟨t, 0, v4, v5, sn⟩, ⟨3, 0, 0, 0, z⟩], rfl, own_litg _ _ hBs.size _ (by rw [size_setCell5, size_setCell5]) ⟨t, 0, v4, v5, sn⟩ ⟨3, 0, 0, 0, z⟩, by simp, fun i hi => (by simp only [List.mem_cons, List.not_mem_nil, or_false] at hi; rcases hi with rfl | rfl; exact HRD.out _ _ ht; exact wok (by decide) (by decide) (by decide) (by decide)), hBs.alloc hBs.size _⟩
    · have t8 : (sn == 8) = false := by simpa using h8
      clear h8
      go_enter Tryd.func51, Tryd.ntmps51
      go_upto_region 4 with fail
      rw [← HW2.out]
      go_wp2_with fail
      with_reducible refine Calls.mono (HF.out _ H2.out.1 _) ?_
      rintro e w3 ⟨z, rfl, hB3⟩
      have hB03 := H2.out.1.trans (hB3.mono H2.out.1.size)
      have hB23 : Below W2.heap.size W2 w3 := hB3
      have hx3 := (hB23.block _ hxl).trans H2.out.2.1
      have hr3 := (hB23.block _ hrl).trans H2.out.2.2.1
      have hst3 := (hB23.block _ hp2).trans H2.out.2.2.2
      have k0' := (obj_cell hx3 0).trans rfl
      have r0' := (obj_cell hr3 0).trans rfl
      have r1' := (obj_cell hr3 1).trans rfl
      have r2' := (obj_cell hr3 2).trans rfl
      have r3' := (obj_cell hr3 3).trans rfl
      have r4' := (obj_cell hr3 4).trans rfl
      have f0 := obj_frozen hr3 0
      have f4 := obj_frozen hr3 4
      have d2' := (obj_cell hst3 2).trans rfl
      have hx3l := lt_of_block hx3
      have hr3l := lt_of_block hr3
      have hp3 := lt_of_block hst3
      have z2' := (hB23.cell (p := ⟨bz, oz + n, none⟩) hbz2).trans z2
      have hbz3 := Nat.lt_of_lt_of_le hbz2 hB23.size
      have H3 := Lib.hid (And.intro hB03 hr3)
      clear hB03 hB23 hx3 hr3 hst3 hB3
      go_wp2_with (first
        | (go_at_call 87
           with_reducible refine (HA.out _).mono ?_
           rintro e w4 ⟨t, rfl, ht, rfl⟩
           have hBs := (H3.out.1.setCell (p := ⟨w.heap.size + 1, 0, none⟩) (show w.heap.size ≤ w.heap.size + 1 by omega) (.int .i64 t)).setCell (p := ⟨w.heap.size + 1, 4, none⟩) (show w.heap.size ≤ w.heap.size + 1 by omega) (.int .i64 sn)
           have HBs := Lib.hid (And.intro hBs ht)
           clear hBs ht)
        | (at_builtin
           refine wpList_appI _ rfl _ _ rfl w.heap.size (.slice none 0 0) [] rfl (OwnI.nil _ _) _ _ 1 1 [⟨t, 0, v4, v5, sn⟩] rfl rfl (lit_insg _ _ (by rw [size_setCell5, size_setCell5]) ⟨t, 0, v4, v5, sn⟩) (by simp) (HBs.out.1.alloc HBs.out.1.size _).size ?_
           intro v5' w5 hown5 hB5 _
           obtain ⟨A5, c5, rfl, -⟩ := hown5.form
           have hB05 := hB5 _ (HBs.out.1.alloc HBs.out.1.size _)
           have H5 := Lib.hid (And.intro hown5 hB05)
           clear hown5 hB5 hB05)
        | (go_at_call 86
           with_reducible refine (HPr.out _ _).mono ?_
           rintro e w6 ⟨v, l, rfl, hown, hll, hwk, hB6⟩
           obtain ⟨A6, c6, rfl, hcs⟩ := hown.form
           have H6 := Lib.hid (And.intro hcs (And.intro hll (And.intro hwk hB6)))
           clear hown hll hwk hB6 hcs)
        | (at_builtin
           refine wpList_appI _ rfl _ _ rfl w.heap.size _ _ rfl (H5.out.1.below H6.out.2.2.2) _ _ l.length c6 l rfl rfl H6.out.1 (by have := H6.out.2.1; simp; omega) (H5.out.2.trans (H6.out.2.2.2.mono H5.out.2.size)).size ?_
           intro v7 w7 hown7 hB7 _
           have H7 := Lib.hid (And.intro hown7 (hB7 _ (H5.out.2.trans (H6.out.2.2.2.mono H5.out.2.size))))
           obtain ⟨A7, c7, rfl, -⟩ := hown7.form
           clear hown7 hB7))
      go_ret
      exact ⟨_, _, rfl, H7.out.1, by have := H6.out.2.1; simp; omega, fun i hi => (by simp only [List.nil_append, List.mem_append, List.mem_singleton] at hi; rcases hi with rfl | hi; exact HRD.out _ _ HBs.out.2; exact H6.out.2.2.1 i hi), H7.out.2⟩
set_option maxRecDepth 20000 in
set_option maxHeartbeats 8000000 in
theorem r5code_x (hP : Ly B w p TA tc text DA dc data zv av S U) (hl : text.length + data.length ≤ 1000000000000000) (hS : S.length = text.length) (hU : U.length = text.length + data.length) (n : Nat) (hn : n < text.length) (_hf : Fnd text data text[n]) (_hok : OkR text[n]) (_hr : -9223372036854775808 ≤ (text[n]).n ∧ (text[n]).n < 9223372036854775808) (hk : (text[n]).k ≠ 2 ∧ (text[n]).k ≠ 3 ∧ (text[n]).k ≠ 4 ∧ (text[n]).k ≠ 5 ∧ (text[n]).k ≠ 6 ∧ (text[n]).k ≠ 7) :
    Calls Tryd.prog 51 #[.pointer (some ⟨p, 0, none⟩), .int .i64 (n : Int)] w (CodeTo5 w) := by
  have hnS : n < S.length := by omega
  have hnU : n < U.length := by omega
  obtain ⟨Au, cu, rfl, hu⟩ := hP.ats.form
  obtain ⟨bu, ou, rfl, hbu, u0⟩ := u_at5 hu n hnU
  obtain ⟨Az, cz, rfl, hz⟩ := hP.szs.form
  obtain ⟨bz, oz, rfl, hbz, z0⟩ := z_at5 hz n hnS
  have hlt := hP.lt
  have c0 := (obj_cell hP.str 0).trans rfl
  obtain ⟨b, o, rfl, hb, x0, x1, x2, x3, x4, x5, x6⟩ := item_at hP.tx2 n hn
  have hmu : (n : Int) < (U.length : Int) := by omega
  have hmz : (n : Int) < (S.length : Int) := by omega
  have hnu : (n : Int) < (text.length : Int) := by omega
  have hul : U.length ≤ 1000000000000000 := by omega
  have hzl : S.length ≤ 1000000000000000 := by omega
  have hst := hP.str
  generalize (U[n] : Nat) = un at *
  generalize (S[n] : Int) = sn at *
  generalize text[n].k = v0 at *
  generalize text[n].s = v1 at *
  generalize text[n].op = v2 at *
  generalize text[n].rd = v3 at *
  generalize text[n].a = v4 at *
  generalize text[n].b = v5 at *
  generalize text[n].n = v6 at *
  clear hP hu hz hS hU
  obtain ⟨W2, hW2⟩ : ∃ W2, W2 = (w.alloc (.cells #[.int .i64 v0, .string v1, .int .i64 v2, .int .i64 v3, .int .i64 v4, .int .i64 v5, .int .i64 v6] 61)).alloc (.cells #[.int .i64 v2, .int .i64 v3, .int .i64 v4, .int .i64 v5, .int .i64 v6] 32) := ⟨_, rfl⟩
  have hB2 : Below w.heap.size w W2 := by rw [hW2]; exact form2 w _ _
  have hx2 : W2.heap[w.heap.size]? = some (.cells #[.int .i64 v0, .string v1, .int .i64 v2, .int .i64 v3, .int .i64 v4, .int .i64 v5, .int .i64 v6] 61 (0, 0)) := by rw [hW2]; exact obj_alloc (heap_alloc_new w _)
  have hr2 : W2.heap[w.heap.size + 1]? = some (.cells #[.int .i64 v2, .int .i64 v3, .int .i64 v4, .int .i64 v5, .int .i64 v6] 32 (0, 0)) := by rw [hW2]; exact heap_new2 w _ _
  have k0 := (obj_cell hx2 0).trans rfl
  have r0 := (obj_cell hr2 0).trans rfl
  have r1 := (obj_cell hr2 1).trans rfl
  have r2 := (obj_cell hr2 2).trans rfl
  have r3 := (obj_cell hr2 3).trans rfl
  have r4 := (obj_cell hr2 4).trans rfl
  have hxl := lt_of_block hx2
  have hrl := lt_of_block hr2
  have hst2 := (hB2.block p hlt).trans hst
  have d2 := (obj_cell hst2 2).trans rfl
  have d3 := (obj_cell hst2 3).trans rfl
  have hp2 := lt_of_block hst2
  have z2 := (hB2.cell (p := ⟨bz, oz + n, none⟩) hbz).trans z0
  have u2 := (hB2.cell (p := ⟨bu, ou + n, none⟩) hbu).trans u0
  have hbz2 := Nat.lt_of_lt_of_le hbz hB2.size
  have hbu2 := Nat.lt_of_lt_of_le hbu hB2.size
  have HW2 := Lib.hid hW2
  have H2 := Lib.hid (And.intro hB2 (And.intro hx2 (And.intro hr2 hst2)))
  clear hW2 hB2 hx2 hr2 hst2 hst z0 u0
  obtain ⟨a2, a3, a4, a5, a6, a7⟩ := hk
  have g2 : (v0 == 2) = false := by simpa using a2
  have g3 : (v0 == 3) = false := by simpa using a3
  have g4 : (v0 == 4) = false := by simpa using a4
  have g5 : (v0 == 5) = false := by simpa using a5
  have g6 : (v0 == 6) = false := by simpa using a6
  have g7 : (v0 == 7) = false := by simpa using a7
  clear a2 a3 a4 a5 a6 a7
  go_enter Tryd.func51, Tryd.ntmps51
  go_upto_region 4 with fail
  rw [← HW2.out]
  go_wp2_with fail
  go_ret
  exact ⟨_, [], rfl, OwnI.nil _ _, by simp, fun i hi => (by cases hi), H2.out.1⟩
theorem r5code_any (hP : Ly B w p TA tc text DA dc data zv av S U) (hl : text.length + data.length ≤ 1000000000000000) (hS : S.length = text.length) (hU : U.length = text.length + data.length) (n : Nat) (hn : n < text.length) (hf : Fnd text data text[n]) (hok : OkR text[n]) (hr : -9223372036854775808 ≤ (text[n]).n ∧ (text[n]).n < 9223372036854775808) :
    Calls Tryd.prog 51 #[.pointer (some ⟨p, 0, none⟩), .int .i64 (n : Int)] w (CodeTo5 w) := by
  by_cases h2 : (text[n]).k = 2
  · exact r5code_2 B w p TA tc text DA dc data zv av S U hP hl hS hU n hn hf hok hr h2
  by_cases h3 : (text[n]).k = 3
  · exact r5code_3 B w p TA tc text DA dc data zv av S U hP hl hS hU n hn hf hok hr h3
  by_cases h4 : (text[n]).k = 4
  · exact r5code_4 B w p TA tc text DA dc data zv av S U hP hl hS hU n hn hf hok hr h4
  by_cases h5 : (text[n]).k = 5
  · exact r5code_5 B w p TA tc text DA dc data zv av S U hP hl hS hU n hn hf hok hr h5
  by_cases h6 : (text[n]).k = 6
  · exact r5code_6 B w p TA tc text DA dc data zv av S U hP hl hS hU n hn hf hok hr h6
  by_cases h7 : (text[n]).k = 7
  · exact r5code_7 B w p TA tc text DA dc data zv av S U hP hl hS hU n hn hf hok hr h7
  · exact r5code_x B w p TA tc text DA dc data zv av S U hP hl hS hU n hn hf hok hr ⟨h2, h3, h4, h5, h6, h7⟩
end
end Go.Proofs

/- patinaref05.put, bytes: bytes behind others. -/
namespace Go.Proofs
open Go Go.RowKit Go.Pat
/-- bytes behind others, in a slice of the call's own: the result, and what is kept. -/
def PutTo (base : Nat) (v : Value) (P : List UInt8 → Prop) (w : World) (e : Ending) (w' : World) : Prop :=
  ∃ v' l', e = .returned v' ∧ OwnB w' base v' l' ∧ P l' ∧ (∀ W, Below base W w → Below base W w') ∧ (∀ g, g < w.heap.size → v.ownBlock ≠ some g → w'.heap[g]? = w.heap[g]?) ∧ NewOr w v v' ∧ w.heap.size ≤ w'.heap.size
set_option maxRecDepth 20000 in
set_option maxHeartbeats 4000000 in
theorem r5put_any (w : World) (base : Nat) (v : Value) (l : List UInt8) (x n : Nat) (hv : OwnB w base v l) (hbase : base ≤ w.heap.size) (_hx : x < 18446744073709551616) (hn : n ≤ 8) (hl : l.length ≤ 140737488000000) :
    Calls Tryd.prog 52 #[v, .int .u64 (x : Int), .int .i64 (n : Int)] w (PutTo base v (fun l' => l'.length = l.length + n) w) := by
  obtain ⟨A0, c0, rfl, -⟩ := hv.form
  have HV := Lib.hid hv
  clear hv
  go_enter Tryd.func52, Tryd.ntmps52
  go_wp2_with fail
  go_loopw [0, 7] (fun out i wr => ∃ (j : Nat) (l' : List UInt8), j ≤ n ∧ i = .int .i64 j ∧ OwnB wr base out l' ∧ l'.length = l.length + j ∧ (∀ W, Below base W w → Below base W wr) ∧ (∀ g, g < w.heap.size → (Value.slice A0 l.length c0).ownBlock ≠ some g → wr.heap[g]? = w.heap[g]?) ∧ NewOr w (.slice A0 l.length c0) out ∧ w.heap.size ≤ wr.heap.size) (fun _ i _ => n - (intOf i).toNat)
  case atStart => exact ⟨0, l, by omega, rfl, HV.out, rfl, fun _ h => h, fun _ _ _ => rfl, fun _ h => .inl h, Nat.le_refl _⟩
  case round =>
    obtain ⟨j, l', hj, rfl, hown, hlen, hB, hK, hN, hS⟩ := hrel
    by_cases hlt : j < n
    · have hd3 : decide ((j : Int) < (n : Int)) = true := by simp; omega
      obtain ⟨q, hq⟩ : ∃ q, q = x / 2 ^ (8 * j) := ⟨_, rfl⟩
      have hqi : (x : Int) / 2 ^ (8 * j) = (q : Int) := by rw [pow_int, ← Int.natCast_ediv, ← hq]
      have HQI := Lib.hid hqi
      clear hqi hq
      have HB := Lib.hid (And.intro hown (And.intro hlen (And.intro hB (And.intro hK (And.intro hN hS)))))
      clear hown hlen hB hK hN hS
      go_wp2_with (at_builtin; refine wpList_appB2 _ rfl _ _ rfl base _ l' rfl (HB.out.1.alloc _) _ _ 1 1 [UInt8.ofNat q] rfl rfl (lit_bs _ _ _ _ ?hx) (by rw [HB.out.2.1]; omega) ?hb ?hk)
      case hx => rw [UInt8.toNat_ofNat']; (try rw [HQI.out]); omega
      case hb => rw [World.size_alloc]; have := HB.out.2.2.2.2.2; omega
      case hk =>
        intro v' w1 hown' hB' hK' hN' hS'
        have hS := HB.out.2.2.2.2.2
        have hS2 : wr.heap.size + 1 ≤ w1.heap.size := by first | exact hS' | (rw [World.size_alloc] at hS'; exact hS')
        have H1 := Lib.hid (And.intro hown' (And.intro (show ∀ W, Below base W w → Below base W w1 from fun W hW => hB' W ((HB.out.2.2.1 W hW).alloc (by omega) _)) (And.intro (show ∀ g, g < w.heap.size → (Value.slice A0 l.length c0).ownBlock ≠ some g → w1.heap[g]? = w.heap[g]? from fun g h1 h2 => by
          rw [hK' g (by first | omega | (rw [World.size_alloc]; omega)) (fun e => by rcases HB.out.2.2.2.2.1 g e with h | h; exact h2 h; omega), Below.heap_alloc _ _ g (by omega)]
          exact HB.out.2.2.2.1 g h1 h2) (show NewOr w (.slice A0 l.length c0) v' from fun g h => by
          rcases hN' g h with h | h
          · exact HB.out.2.2.2.2.1 g h
          · exact .inr (by first | omega | (rw [World.size_alloc] at h; omega))))))
        clear hB' hK' hN' hown'
        go_wp2
        go_roundw
        case rel => exact ⟨j + 1, _, by omega, by go_num, H1.out.1, by rw [List.length_append, HB.out.2.1]; simp; omega, H1.out.2.1, H1.out.2.2.1, H1.out.2.2.2, by omega⟩
        case measure => simp [intOf]; omega
    · have hd3 : decide ((j : Int) < (n : Int)) = false := by simp; omega
      obtain rfl : j = n := by omega
      have HP := Lib.hid (And.intro hown (And.intro hlen (And.intro hB (And.intro hK (And.intro hN hS)))))
      obtain ⟨A1, c1, rfl, -⟩ := hown.form
      clear hown hlen hB hK hN hS
      go_wp2
      go_ret
      exact ⟨_, _, rfl, HP.out.1, HP.out.2.1, HP.out.2.2.1, HP.out.2.2.2.1, HP.out.2.2.2.2.1, HP.out.2.2.2.2.2⟩
set_option maxRecDepth 20000 in
set_option maxHeartbeats 4000000 in
theorem r5bytes_any (w : World) (base : Nat) (v : Value) (l : List UInt8) (x : It) (hv : OwnB w base v l) (hbase : base ≤ w.heap.size) (h9 : x.k = 9 → 0 ≤ x.n ∧ x.n ≤ 1048576) (hr : -9223372036854775808 ≤ x.n ∧ x.n < 9223372036854775808) (hl : l.length ≤ 100000000000000) :
    Calls Tryd.prog 54 #[v, .agg x.cs] w (PutTo base v (fun l' => l'.length ≤ l.length + 1048576) w) := by
  obtain ⟨k, s, op, rd, a, b, n⟩ := x
  show Calls Tryd.prog 54 #[v, .agg #[.int .i64 k, .string s, .int .i64 op, .int .i64 rd, .int .i64 a, .int .i64 b, .int .i64 n]] w _
  simp only at h9 hr
  obtain ⟨A0, c0, rfl, -⟩ := hv.form
  have HV := Lib.hid hv
  clear hv
  by_cases h8 : k = 8
  · subst h8
    obtain ⟨y, hy⟩ : ∃ y, wrN n = y := ⟨_, rfl⟩
    have hyu : IntKind.u64.wrap n = (y : Int) := by rw [← hy, wrN_is]
    have hyl : y < 18446744073709551616 := by rw [← hy]; exact wrN_lt n
    have HP := Lib.hid (fun W (hW : OwnB W base (.slice A0 l.length c0) l) (hb : base ≤ W.heap.size) => r5put_any W base _ l y 8 hW hb hyl (by decide) (by omega))
    clear h9 hr hy
    go_enter Tryd.func54, Tryd.ntmps54
    go_wp2_with fail
    refine Calls.mono (HP.out _ (HV.out.alloc _) (by rw [World.size_alloc]; omega)) ?_
    rintro e w2 ⟨v', l', rfl, hown, hll, hB, hK, hN, hS⟩
    obtain ⟨A1, c1, rfl, -⟩ := hown.form
    have H2 := Lib.hid (And.intro hown (And.intro hll (And.intro hB (And.intro hK (And.intro hN hS)))))
    clear hown hll hB hK hN hS
    go_wp2_with fail
    go_ret
    have hS := H2.out.2.2.2.2.2
    rw [World.size_alloc] at hS
    refine ⟨_, _, rfl, H2.out.1, by have := H2.out.2.1; omega, fun W hW => H2.out.2.2.1 W (hW.alloc hbase _), fun g h1 h2 => ?_, fun g h => ?_, by omega⟩
    · rw [H2.out.2.2.2.1 g (by rw [World.size_alloc]; omega) h2, Below.heap_alloc _ _ g h1]
    · rcases H2.out.2.2.2.2.1 g h with h | h
      · exact .inl h
      · exact .inr (by rw [World.size_alloc] at h; omega)
  · have t8 : (k == 8) = false := by simpa using h8
    by_cases h : k = 9
    · subst h
      obtain ⟨a0, a1⟩ := h9 rfl
      obtain ⟨m, rfl⟩ : ∃ m : Nat, n = m := ⟨n.toNat, by omega⟩
      have hm : m ≤ 1048576 := by omega
      clear h9 h8 hr a0 a1
      obtain ⟨W1, hW1⟩ : ∃ W1, W1 = w.alloc (.cells #[.int .i64 9, .string s, .int .i64 op, .int .i64 rd, .int .i64 a, .int .i64 b, .int .i64 (m : Int)] 61) := ⟨_, rfl⟩
      have hb1 : W1.heap[w.heap.size]? = some (.cells #[.int .i64 9, .string s, .int .i64 op, .int .i64 rd, .int .i64 a, .int .i64 b, .int .i64 (m : Int)] 61 (0, 0)) := by rw [hW1]; exact heap_alloc_new w _
      have x0 := (obj_cell hb1 0).trans rfl
      have hb1l := lt_of_block hb1
      have HI := Lib.hid (show OwnB W1 base (.slice A0 l.length c0) l ∧ l.length = l.length + 0 ∧ (∀ W, Below base W w → Below base W W1) ∧ (∀ g, g < w.heap.size → (Value.slice A0 l.length c0).ownBlock ≠ some g → W1.heap[g]? = w.heap[g]?) ∧ NewOr w (.slice A0 l.length c0) (.slice A0 l.length c0) ∧ w.heap.size + 1 ≤ W1.heap.size ∧ W1.heap[w.heap.size]? = some (.cells #[.int .i64 9, .string s, .int .i64 op, .int .i64 rd, .int .i64 a, .int .i64 b, .int .i64 (m : Int)] 61 (0, 0)) from by
        refine ⟨by rw [hW1]; exact HV.out.alloc _, rfl, fun W hW => by rw [hW1]; exact hW.alloc hbase _, fun g h1 _ => by rw [hW1, Below.heap_alloc _ _ g h1], fun g h => .inl h, by rw [hW1, World.size_alloc]; omega, hb1⟩)
      have HW := Lib.hid hW1
      clear hb1 hW1
      go_enter Tryd.func54, Tryd.ntmps54
      go_upto_region 1 with fail
      rw [← HW.out]
      go_wp2_with fail
      go_loopw [0, 5] (fun out i wr => ∃ (j : Nat) (l' : List UInt8), j ≤ m ∧ i = .int .i64 j ∧ OwnB wr base out l' ∧ l'.length = l.length + j ∧ (∀ W, Below base W w → Below base W wr) ∧ (∀ g, g < w.heap.size → (Value.slice A0 l.length c0).ownBlock ≠ some g → wr.heap[g]? = w.heap[g]?) ∧ NewOr w (.slice A0 l.length c0) out ∧ w.heap.size + 1 ≤ wr.heap.size ∧ wr.heap[w.heap.size]? = some (.cells #[.int .i64 9, .string s, .int .i64 op, .int .i64 rd, .int .i64 a, .int .i64 b, .int .i64 (m : Int)] 61 (0, 0))) (fun _ i _ => m - (intOf i).toNat)
      case atStart => exact ⟨0, l, by omega, rfl, HI.out.1, HI.out.2.1, HI.out.2.2.1, HI.out.2.2.2.1, HI.out.2.2.2.2.1, HI.out.2.2.2.2.2.1, HI.out.2.2.2.2.2.2⟩
      case round =>
        obtain ⟨j, l', hj, rfl, hown, hlen, hB, hK, hN, hS, hx⟩ := hrel
        have x6 := (obj_cell hx 6).trans rfl
        have hxl := lt_of_block hx
        by_cases hlt : j < m
        · have hd3 : decide ((j : Int) < (m : Int)) = true := by simp; omega
          have HB := Lib.hid (And.intro hown (And.intro hlen (And.intro hB (And.intro hK (And.intro hN (And.intro hS hx))))))
          clear hown hlen hB hK hN hS hx
          go_wp2_with (at_builtin; refine wpList_appB2 _ rfl _ _ rfl base _ l' rfl (HB.out.1.alloc _) _ _ 1 1 [0] rfl rfl (lit_bs _ _ _ _ ?hx) (by rw [HB.out.2.1]; omega) ?hb ?hk)
          case hx => rfl
          case hb => rw [World.size_alloc]; have := HB.out.2.2.2.2.2.1; omega
          case hk =>
            intro v' w1 hown' hB' hK' hN' hS'
            have hS := HB.out.2.2.2.2.2.1
            have hS2 : wr.heap.size + 1 ≤ w1.heap.size := by first | exact hS' | (rw [World.size_alloc] at hS'; exact hS')
            have hbx : w1.heap[w.heap.size]? = wr.heap[w.heap.size]? := by
              rw [hK' _ (by first | omega | (rw [World.size_alloc]; omega)) (fun e => by
                obtain ⟨_, cur, hc⟩ := owns_block HB.out.1 e
                rw [HB.out.2.2.2.2.2.2] at hc
                cases hc), Below.heap_alloc _ _ _ (by omega)]
            have H1 := Lib.hid (And.intro hown' (And.intro (show ∀ W, Below base W w → Below base W w1 from fun W hW => hB' W ((HB.out.2.2.1 W hW).alloc (by omega) _)) (And.intro (show ∀ g, g < w.heap.size → (Value.slice A0 l.length c0).ownBlock ≠ some g → w1.heap[g]? = w.heap[g]? from fun g h1 h2 => by
              rw [hK' g (by first | omega | (rw [World.size_alloc]; omega)) (fun e => by rcases HB.out.2.2.2.2.1 g e with h | h; exact h2 h; omega), Below.heap_alloc _ _ g (by omega)]
              exact HB.out.2.2.2.1 g h1 h2) (And.intro (show NewOr w (.slice A0 l.length c0) v' from fun g h => by
              rcases hN' g h with h | h
              · exact HB.out.2.2.2.2.1 g h
              · exact .inr (by first | omega | (rw [World.size_alloc] at h; omega))) (hbx.trans HB.out.2.2.2.2.2.2)))))
            clear hB' hK' hN' hown' hbx
            go_wp2
            go_roundw
            case rel => exact ⟨j + 1, _, by omega, by go_num, H1.out.1, by rw [List.length_append, HB.out.2.1]; simp; omega, H1.out.2.1, H1.out.2.2.1, H1.out.2.2.2.1, by omega, H1.out.2.2.2.2⟩
            case measure => simp [intOf]; omega
        · have hd3 : decide ((j : Int) < (m : Int)) = false := by simp; omega
          obtain rfl : j = m := by omega
          have HP := Lib.hid (And.intro hown (And.intro hlen (And.intro hB (And.intro hK (And.intro hN hS)))))
          obtain ⟨A1, c1, rfl, -⟩ := hown.form
          clear hown hlen hB hK hN hS hx
          go_wp2
          go_ret
          exact ⟨_, _, rfl, HP.out.1, by have := HP.out.2.1; omega, HP.out.2.2.1, HP.out.2.2.2.1, HP.out.2.2.2.2.1, by have := HP.out.2.2.2.2.2; omega⟩
    · have t9 : (k == 9) = false := by simpa using h
      clear h9 h8 h hr
      go_enter Tryd.func54, Tryd.ntmps54
      go_wp2
      go_ret
      exact ⟨_, _, rfl, HV.out.alloc _, by omega, fun W hW => hW.alloc hbase _, fun g h1 _ => Below.heap_alloc _ _ g h1, fun g h => .inl h, by rw [World.size_alloc]; omega⟩
end Go.Proofs

/- patinaref05.Assemble: it returns code with its labels in memory. (Printed by wip/tools/gen_r5h.py.) -/
namespace Go.Pat
open Go Go.RowKit
theorem rwordN_lt (l c f3 f7 d a b : Nat) (n : Int) (hc : c < 4294967296) (h3 : f3 < 8) (h7 : f7 < 64) (hd : d < 32) (ha : a < 32) (hb : b < 32) : rwordN l c f3 f7 d a b n < 4294967296 := by
  have hH := headN_lt c f3 d a b hc h3 hd ha hb
  have b1 : bitI n 0 12 < 4096 := bitI_lt n 0 12
  have b2 : bitI n 0 5 < 32 := bitI_lt n 0 5
  have b3 : bitI n 5 7 < 128 := bitI_lt n 5 7
  have b4 : bitI n 11 1 < 2 := bitI_lt n 11 1
  have b5 : bitI n 1 4 < 16 := bitI_lt n 1 4
  have b6 : bitI n 5 6 < 64 := bitI_lt n 5 6
  have b7 : bitI n 12 1 < 2 := bitI_lt n 12 1
  have b8 : bitI n 0 20 < 1048576 := bitI_lt n 0 20
  have b9 : bitI n 12 8 < 256 := bitI_lt n 12 8
  have b10 : bitI n 1 10 < 1024 := bitI_lt n 1 10
  have b11 : bitI n 20 1 < 2 := bitI_lt n 20 1
  unfold rwordN
  split
  · exact or_lt32 hH (by omega)
  split
  · exact or_lt32 hH (by omega)
  split
  · exact or_lt32 (or_lt32 hH (by omega)) (by omega)
  split
  · exact or_lt32 (or_lt32 hH (by omega)) (by omega)
  split
  · exact or_lt32 (or_lt32 (or_lt32 (or_lt32 hH (by omega)) (by omega)) (by omega)) (by omega)
  split
  · exact or_lt32 hH (by omega)
  split
  · exact or_lt32 (or_lt32 (or_lt32 (or_lt32 hH (by omega)) (by omega)) (by omega)) (by omega)
  · exact hH
end Go.Pat
namespace Go.Proofs
open Go Go.RowKit Go.Pat
theorem r5word_in (i : In) (h : WordOk i) (w : World) : Calls Tryd.prog 53 #[.agg #[.int .i64 i.op, .int .i64 i.rd, .int .i64 i.a, .int .i64 i.b, .int .i64 i.n]] w fun e w' => ∃ x : Nat, e = .returned (.int .u32 (x : Int)) ∧ x < 4294967296 ∧ Below w.heap.size w w' := by
  obtain ⟨⟨a1, a2⟩, ⟨b1, b2⟩, ⟨c1, c2⟩, d1, d2⟩ := h
  obtain ⟨op, rd, a, b, n⟩ := i
  simp only at a1 a2 b1 b2 c1 c2 d1 d2 ⊢
  obtain ⟨op, rfl⟩ : ∃ m : Nat, op = m := ⟨op.toNat, by omega⟩
  obtain ⟨rd, rfl⟩ : ∃ m : Nat, rd = m := ⟨rd.toNat, by omega⟩
  obtain ⟨a, rfl⟩ : ∃ m : Nat, a = m := ⟨a.toNat, by omega⟩
  obtain ⟨b, rfl⟩ : ∃ m : Nat, b = m := ⟨b.toNat, by omega⟩
  obtain ⟨f1, f2, f3⟩ := form_bounds op (by omega)
  exact (rword_any op rd a b n (by omega) (by omega) (by omega) (by omega) w).mono fun e w' h => ⟨_, h.1, rwordN_lt _ _ _ _ _ _ _ _ f1 f2 f3 (by omega) (by omega) (by omega), h.2⟩
theorem code_ret5 (tmps : Array Value) (Wp : World) (b : Nat) (a0 a1 a2 : Value) (hb : Wp.heap[b]? = some (.cells #[a0, a1, a2] 45 (0, 0))) (v0 v1 v2 v3 v4 : Value) (Post : Ending → World → Prop) (h2 : tmps[8]?.getD undef = .pointer (some ⟨b, 0, none⟩)) (h3 : tmps[9]?.getD undef = v3) (h4 : tmps[10]?.getD undef = v4)
    (h : Post (.returned (.tuple #[.agg #[v0, v1, v2], v3, v4])) (((Wp.setCell ⟨b, 0, none⟩ v0).setCell ⟨b, 1, none⟩ v1).setCell ⟨b, 2, none⟩ v2)) :
    bodyPost Tryd.prog Tryd.f19 Post Exit.ret ⟨tmps, []⟩ (((Wp.setCell ⟨b, 0, none⟩ v0).setCell ⟨b, 1, none⟩ v1).setCell ⟨b, 2, none⟩ v2) := by
  have hX := obj_set (obj_set (obj_set hb 0 v0) 1 v1) 2 v2
  have hc : ((#[a0, a1, a2].setIfInBounds 0 v0).setIfInBounds 1 v1).setIfInBounds 2 v2 = #[v0, v1, v2] := by simp
  rw [hc] at hX
  exact bodyPost_ret (results_code _ rfl tmps b _ _ v3 v4 h2 h3 h4 hX rfl) rfl h
theorem r5put4_any (w : World) (base : Nat) (v : Value) (l : List UInt8) (x : Nat) (hv : OwnB w base v l) (hbase : base ≤ w.heap.size) (hx : x < 18446744073709551616) (hl : l.length ≤ 140737488000000) :
    Calls Tryd.prog 52 #[v, .int .u64 (x : Int), .int .i64 4] w (PutTo base v (fun l' => l'.length = l.length + 4) w) := r5put_any w base v l x 4 hv hbase hx (by decide) hl
/-- blocks of other kinds are other blocks. -/
theorem ne_of_kind {w : World} {base n size g h : Nat} {e t : TypeId} {v : Value} {xs : List Value} {cs : Array Value} (ho : w.ownsRow base e size v n xs) (hv : v.ownBlock = some g) (hc : w.heap[h]? = some (.cells cs t (0, 0))) (ht : e ≠ t) : g ≠ h := fun eq => by
  obtain ⟨_, cur, h2⟩ := owns_block ho hv
  rw [eq, hc] at h2
  simp only [Option.some.injEq, Obj.cells.injEq] at h2
  exact ht h2.2.1.symm
section
variable (w : World) (TA : Option Addr) (tc : Nat) (text : List It) (DA : Option Addr) (dc : Nat) (data : List It)
def R5To (e : Ending) (w' : World) : Prop :=
  ∃ (At Ad Al : Option Addr) (nt ct nd cd cl : Nat) (z i : Int) (L : List Lab), e = .returned (.tuple #[.agg #[.slice At nt ct, .slice Ad nd cd, .slice Al L.length cl], .int .i64 z, .int .i64 i]) ∧ OwnL w' w.heap.size (.slice Al L.length cl) L ∧ Below w.heap.size w w'
set_option maxRecDepth 20000 in
set_option maxHeartbeats 8000000 in
theorem r5Assemble_any (hT : Cs w.heap.size w TA (tcells text)) (hD : Cs w.heap.size w DA (tcells data)) (hl : text.length + data.length ≤ 1000000000000000) (hns : ∀ x ∈ text ++ data, x.s.size ≤ maxLen) (hni : ∀ x ∈ text ++ data, -9223372036854775808 ≤ x.n ∧ x.n < 9223372036854775808) (at_ dat : Nat) :
    Calls Tryd.prog 19 #[.slice TA text.length tc, .slice DA data.length dc, .int .u64 (at_ : Int), .int .u64 (dat : Int)] w (R5To w) := by
  obtain ⟨W1, hW1⟩ : ∃ W1, W1 = w.alloc (.cells #[.slice none 0 0, .slice none 0 0, .slice none 0 0] 45) := ⟨_, rfl⟩
  have hB1 : Below w.heap.size w W1 := by rw [hW1]; exact form1 w _
  have hz1 : W1.heap[w.heap.size]? = some (.cells #[.slice none 0 0, .slice none 0 0, .slice none 0 0] 45 (0, 0)) := by rw [hW1]; exact heap_alloc_new w _
  have HM := Lib.hid (r5made_any W1 TA tc text DA dc data ((hT.below hB1).more hB1.size) ((hD.below hB1).more hB1.size) hl hns hni at_ dat)
  have HW1 := Lib.hid hW1
  have hzl1 := lt_of_block hz1
  have H1 := Lib.hid (And.intro hB1 hz1)
  have HNI := Lib.hid hni
  have HX := Lib.hid (show ∀ (At Ad Al : Option Addr) (nt ct nd cd cl : Nat) (z i : Int) (L : List Lab) W, OwnL W w.heap.size (.slice Al L.length cl) L → Below w.heap.size w W → R5To w (.returned (.tuple #[.agg #[.slice At nt ct, .slice Ad nd cd, .slice Al L.length cl], .int .i64 z, .int .i64 i])) W from fun At Ad Al nt ct nd cd cl z i L W h1 h2 => ⟨At, Ad, Al, nt, ct, nd, cd, cl, z, i, L, rfl, h1, h2⟩)
  generalize R5To w = PP at *
  clear hW1 hB1 hz1 hT hD hns hni
  go_enter Tryd.func19, Tryd.ntmps19
  go_upto_region 1 with fail
  rw [← HW1.out]
  go_wp2_with fail
  with_reducible refine Calls.mono HM.out ?_
  rintro e w2 ⟨p, z, i, rfl, hB2, hp2, hz⟩
  have hB02 := H1.out.1.trans (hB2.mono H1.out.1.size)
  have hzz := (hB2.block w.heap.size hzl1).trans H1.out.2
  have hzl2 := lt_of_block hzz
  by_cases hz0 : z = 0
  rotate_left 1
  · have tz : (z != 0) = true := by simpa using hz0
    obtain ⟨⟨z0, z1, z2⟩, z3, z4, z5⟩ := code_zero hzz
    have H2 := Lib.hid (And.intro hB02 hzz)
    clear hz hB2 hB02 hz0 hzz
    go_wp2_with fail
    exact code_ret5 _ _ w.heap.size _ _ _ H2.out.2 _ _ _ _ _ _ rfl rfl rfl (HX.out none none none 0 0 0 0 0 _ _ [] _ (OwnL.nil _ _) (below_set3 H2.out.1 (Nat.le_refl _) _ _ _))
  · subst hz0
    obtain ⟨hck, zv, av, S, U, hLy, hSl, hUl⟩ := hz rfl
    have htl : text.length ≤ 1048576 := by have := hck.len; omega
    have hdl : data.length ≤ 1048576 := by have := hck.len; omega
    have HCK := Lib.hid hck
    have H2 := Lib.hid (And.intro hB02 (And.intro hzz (And.intro hLy (And.intro hSl hUl))))
    clear hz hB2 hB02 hzz hLy hSl hUl hck
    obtain ⟨W3, hW3⟩ : ∃ W3, W3 = w2.alloc (.cells #[.slice none 0 0, .slice none 0 0, .slice none 0 0] 45) := ⟨_, rfl⟩
    have hq3 : W3.heap[w2.heap.size]? = some (.cells #[.slice none 0 0, .slice none 0 0, .slice none 0 0] 45 (0, 0)) := by rw [hW3]; exact heap_alloc_new w2 _
    have hB3 : Below w2.heap.size w2 W3 := by rw [hW3]; exact form1 w2 _
    have HW3 := Lib.hid hW3
    have H3 := Lib.hid (And.intro hq3 hB3)
    clear hW3 hq3 hB3
    go_upto_region 5 with fail
    rw [← HW3.out]
    go_wp2_with fail
    go_loopw [39] (fun i wr => ∃ (k : Nat) (vt : Value) (lt : List UInt8), k ≤ text.length ∧ i = .int .i64 k ∧ wr.heap[w2.heap.size]? = some (.cells #[vt, .slice none 0 0, .slice none 0 0] 45 (0, 0)) ∧ OwnB wr w2.heap.size vt lt ∧ lt.length ≤ k * 1049000 ∧ Below w2.heap.size w2 wr) (fun i _ => text.length - (intOf i).toNat)
    case atStart => exact ⟨0, .slice none 0 0, [], Nat.zero_le _, rfl, H3.out.1, OwnB.nil _ _, Nat.zero_le _, H3.out.2⟩
    case round =>
      obtain ⟨k, vt, lt, hk, rfl, hq, hown, hlt2, hB⟩ := hrel
      by_cases hlt : k < text.length
      · have t1 : decide ((k : Int) < (text.length : Int)) = true := decide_eq_true (by omega)
        have hku : (k : Int) < (text.length : Int) := by omega
        obtain ⟨W7, hW7⟩ : ∃ W7, W7 = wr := ⟨_, rfl⟩
        subst hW7
        have hPr := H2.out.2.2.1.keep hB
        obtain ⟨b, o, e0, hb, x0, x1, x2, x3, x4, x5, x6⟩ := item_at hPr.tx2 k hlt
        cases e0
        have hmem := List.mem_append_left data (List.getElem_mem hlt)
        have HC0 := fun W (hW : Below w2.heap.size w2 W) => r5code_any W1.heap.size W p _ tc text DA dc data zv av S U (H2.out.2.2.1.keep hW) hl H2.out.2.2.2.1 H2.out.2.2.2.2 k hlt (HCK.out.fnd _ hmem) (HCK.out.ok _ hmem) (HNI.out _ hmem)
        have HBy0 := fun (W : World) (v : Value) (l : List UInt8) (hv : OwnB W w2.heap.size v l) (hb : w2.heap.size ≤ W.heap.size) (hl' : l.length ≤ 100000000000000) => r5bytes_any W w2.heap.size v l text[k] hv hb (HCK.out.ok _ hmem).2.2.2.2.2 (HNI.out _ hmem) hl'
        have hcs : (text[k]).cs = #[.int .i64 (text[k]).k, .string (text[k]).s, .int .i64 (text[k]).op, .int .i64 (text[k]).rd, .int .i64 (text[k]).a, .int .i64 (text[k]).b, .int .i64 (text[k]).n] := rfl
        rw [hcs] at HBy0
        clear hcs hmem
        unfold CodeTo5 at HC0
        unfold PutTo at HBy0
        generalize text[k].k = v0 at *
        generalize text[k].s = v1 at *
        generalize text[k].op = v2 at *
        generalize text[k].rd = v3 at *
        generalize text[k].a = v4 at *
        generalize text[k].b = v5 at *
        generalize text[k].n = v6 at *
        have HCd := Lib.hid HC0
        have HBy := Lib.hid HBy0
        obtain ⟨At0, ct0, rfl, -⟩ := hown.form
        obtain ⟨WA, hWA⟩ : ∃ WA, WA = W7.alloc (.cells #[.int .i64 v0, .string v1, .int .i64 v2, .int .i64 v3, .int .i64 v4, .int .i64 v5, .int .i64 v6] 61) := ⟨_, rfl⟩
        have hBA : Below W7.heap.size W7 WA := by rw [hWA]; exact form1 W7 _
        have hblA : WA.heap[W7.heap.size]? = some (.cells #[.int .i64 v0, .string v1, .int .i64 v2, .int .i64 v3, .int .i64 v4, .int .i64 v5, .int .i64 v6] 61 (0, 0)) := by rw [hWA]; exact heap_alloc_new W7 _
        have hql := lt_of_block hq
        have hqA := (hBA.block w2.heap.size hql).trans hq
        have hB2A := hB.trans (hBA.mono hB.size)
        have hownA := hown.below hBA
        have hWAs : W7.heap.size + 1 = WA.heap.size := by rw [hWA, World.size_alloc]
        have HWA := Lib.hid hWA
        have HA := Lib.hid (And.intro hblA (And.intro hqA (And.intro hB2A (And.intro hownA (And.intro hBA hWAs)))))
        clear hPr HC0 HBy0 hWA hBA hblA hqA hB2A hownA hq hown hB hWAs
        go_upto_region 8 with fail
        rw [← HWA.out]
        go_wp2_with fail
        with_reducible refine Calls.mono (HCd.out _ HA.out.2.2.1) ?_
        rintro e w4 ⟨vi, ins, rfl, hoi, hil, hiw, hB4⟩
        obtain ⟨Ai, ci, rfl, -⟩ := hoi.form
        have hxl : W7.heap.size < WA.heap.size := lt_of_block HA.out.1
        have hqlA : w2.heap.size < WA.heap.size := lt_of_block HA.out.2.1
        have hbl4 := (hB4.block W7.heap.size hxl).trans HA.out.1
        have hq4 := (hB4.block w2.heap.size hqlA).trans HA.out.2.1
        have hB24 := HA.out.2.2.1.trans (hB4.mono HA.out.2.2.1.size)
        have hown4 := HA.out.2.2.2.1.below hB4
        have hins : ins.length ≤ 100 := hil
        have H4 := Lib.hid (And.intro hbl4 (And.intro hq4 (And.intro hB24 (And.intro hown4 (And.intro hoi hiw)))))
        clear hbl4 hq4 hB24 hown4 hoi hiw hB4 hil
        go_wp2_with fail
        go_loopw [48] (fun j wr => ∃ (m : Nat) (vt2 : Value) (lt2 : List UInt8), m ≤ ins.length ∧ j = .int .i64 m ∧ wr.heap[w2.heap.size]? = some (.cells #[vt2, .slice none 0 0, .slice none 0 0] 45 (0, 0)) ∧ OwnB wr w2.heap.size vt2 lt2 ∧ lt2.length = lt.length + 4 * m ∧ OwnI wr WA.heap.size (.slice Ai ins.length ci) ins ∧ wr.heap[W7.heap.size]? = some (.cells #[.int .i64 v0, .string v1, .int .i64 v2, .int .i64 v3, .int .i64 v4, .int .i64 v5, .int .i64 v6] 61 (0, 0)) ∧ Below w2.heap.size w2 wr) (fun j _ => ins.length - (intOf j).toNat)
        case atStart => exact ⟨0, _, lt, Nat.zero_le _, rfl, H4.out.2.1, H4.out.2.2.2.1, rfl, H4.out.2.2.2.2.1, H4.out.1, H4.out.2.2.1⟩
        case round =>
          obtain ⟨m, vt2, lt2, hm, rfl, hq, hown, hl2, hoi, hbl, hB⟩ := hrel
          obtain ⟨At1, ct1, rfl, -⟩ := hown.form
          have hql := lt_of_block hq
          by_cases hlm : m < ins.length
          · have t2 : decide ((m : Int) < (ins.length : Int)) = true := decide_eq_true (by omega)
            have hmu : (m : Int) < (ins.length : Int) := by omega
            obtain ⟨A9, c9, e9, hcs9⟩ := hoi.form
            cases e9
            obtain ⟨bi, oi, e8, hbi, i0, i1, i2, i3, i4⟩ := ins_at hcs9 m hlm
            subst e8
            have HWd0 := fun W => r5word_in ins[m] (H4.out.2.2.2.2.2 _ (List.getElem_mem hlm)) W
            generalize ins[m].op = o0 at *
            generalize ins[m].rd = o1 at *
            generalize ins[m].a = o2 at *
            generalize ins[m].b = o3 at *
            generalize ins[m].n = o4 at *
            have HWd := Lib.hid HWd0
            obtain ⟨WB, hWB⟩ : ∃ WB, WB = wr.alloc (.cells #[.int .i64 o0, .int .i64 o1, .int .i64 o2, .int .i64 o3, .int .i64 o4] 32) := ⟨_, rfl⟩
            have hBB : Below wr.heap.size wr WB := by rw [hWB]; exact form1 wr _
            have hrB : WB.heap[wr.heap.size]? = some (.cells #[.int .i64 o0, .int .i64 o1, .int .i64 o2, .int .i64 o3, .int .i64 o4] 32 (0, 0)) := by rw [hWB]; exact heap_alloc_new wr _
            have hxl2 := lt_of_block hbl
            have hqB := (hBB.block w2.heap.size hql).trans hq
            have hblB := (hBB.block W7.heap.size hxl2).trans hbl
            have hownB := hown.below hBB
            have hoiB := hoi.below hBB
            have hBwB := hB.trans (hBB.mono hB.size)
            have r0 := (obj_cell hrB 0).trans rfl
            have r1 := (obj_cell hrB 1).trans rfl
            have r2 := (obj_cell hrB 2).trans rfl
            have r3 := (obj_cell hrB 3).trans rfl
            have r4 := (obj_cell hrB 4).trans rfl
            have hrl := lt_of_block hrB
            have q0 := (obj_cell hqB 0).trans rfl
            have q0f := obj_frozen hqB 0
            have hqlB := lt_of_block hqB
            have HWB := Lib.hid hWB
            have HB := Lib.hid (And.intro hqB (And.intro hblB (And.intro hownB (And.intro hoiB (And.intro hBwB hl2)))))
            clear hWB hBB hrB hqB hblB hownB hoiB hBwB hq hown hl2 hoi hbl hB HWd0 hcs9
            go_upto_region 11 with fail
            rw [← HWB.out]
            go_region_law (first
              | (go_simp
                 go_at_call 53
                 with_reducible refine (HWd.out _).mono ?_
                 rintro e w6 ⟨x, rfl, hx, hB6⟩
                 have h6 : Below WB.heap.size WB w6 := ⟨hB6.os, hB6.tape, hB6.output, hB6.size, hB6.block⟩
                 have hq6 := (h6.block w2.heap.size hqlB).trans HB.out.1
                 have hq6l := lt_of_block hq6
                 have p0 := (obj_cell hq6 0).trans rfl
                 have p0f := obj_frozen hq6 0
                 have hx64 : IntKind.u64.wrap (x : Int) = (x : Int) := by rw [IntKind.wrap_u64]; omega
                 have H6 := Lib.hid (And.intro hq6 (And.intro ((h6.block W7.heap.size (lt_of_block HB.out.2.1)).trans HB.out.2.1) (And.intro (HB.out.2.2.1.below h6) (And.intro (HB.out.2.2.2.1.below h6) (HB.out.2.2.2.2.1.trans (h6.mono HB.out.2.2.2.2.1.size))))))
                 clear hB6 h6 hq6)
              | (go_simp
                 go_at_call 52
                 with_reducible refine (r5put4_any w6 w2.heap.size (.slice At1 lt2.length ct1) lt2 x H6.out.2.2.1 (Nat.le_of_lt hq6l) (by omega) (by have := HB.out.2.2.2.2.2; have h2 : k * 1049000 ≤ 1048576 * 1049000 := Nat.mul_le_mul_right _ (by omega); omega)).mono ?_
                 rintro e w7 ⟨v7, l7, rfl, hown7, hl7, hB7, hK7, hN7, hS7⟩
                 obtain ⟨A7, c7, rfl, -⟩ := hown7.form
                 have hneq : (Value.slice At1 lt2.length ct1).ownBlock ≠ some w2.heap.size := fun e => ne_of_kind H6.out.2.2.1 e H6.out.1 (by decide) rfl
                 have hnex : (Value.slice At1 lt2.length ct1).ownBlock ≠ some W7.heap.size := fun e => ne_of_kind H6.out.2.2.1 e H6.out.2.1 (by decide) rfl
                 have hq7 := (hK7 w2.heap.size hq6l hneq).trans H6.out.1
                 have hbl7 := (hK7 W7.heap.size (lt_of_block H6.out.2.1) hnex).trans H6.out.2.1
                 have hoi7 : OwnI w7 WA.heap.size (.slice (some ⟨bi, oi, none⟩) ins.length ci) ins := H6.out.2.2.2.1.keep fun g hg => hK7 g (H6.out.2.2.2.1.lt g hg).2 (fun e => by
                   obtain ⟨_, cur, hc⟩ := owns_block H6.out.2.2.2.1 hg
                   exact ne_of_kind H6.out.2.2.1 e hc (by decide) rfl)
                 have p7f := obj_frozen hq7 0
                 have p7 := (obj_cell hq7 0).trans rfl
                 have hq7l := lt_of_block hq7
                 have H7 := Lib.hid (And.intro hq7 (And.intro hbl7 (And.intro hown7 (And.intro hl7 (And.intro hoi7 (hB7 _ H6.out.2.2.2.2))))))
                 clear hown7 hl7 hB7 hK7 hN7 hS7 hq7 hbl7 hoi7))
            all_goals
              go_wp2_with fail
              go_roundw
              case rel =>
                refine ⟨m + 1, _, _, by omega, by go_num, obj_set H7.out.1 0 _, H7.out.2.2.1.keep fun g hg => Below.heap_setCell _ _ _ _ (fun e => ne_of_kind H7.out.2.2.1 hg H7.out.1 (by decide) e), by have h1 := H7.out.2.2.2.1; have h2 := HB.out.2.2.2.2.2; omega, H7.out.2.2.2.2.1.keep fun g hg => Below.heap_setCell _ _ _ _ (fun e => ne_of_kind H7.out.2.2.2.2.1 hg H7.out.1 (by decide) e), (Below.heap_setCell _ _ _ _ (fun e => ?_)).trans H7.out.2.1, H7.out.2.2.2.2.2.setCell (Nat.le_refl _) _⟩
                have h1 := H7.out.1
                have e2 : W7.heap.size = w2.heap.size := e
                rw [← e2, H7.out.2.1] at h1
                cases h1
              case measure => simp [intOf]; omega
          · have t2 : decide ((m : Int) < (ins.length : Int)) = false := decide_eq_false (by omega)
            obtain rfl : m = ins.length := by omega
            have q0 := (obj_cell hq 0).trans rfl
            have q0f := obj_frozen hq 0
            have g0 := (obj_cell hbl 0).trans rfl
            have g1 := (obj_cell hbl 1).trans rfl
            have g2 := (obj_cell hbl 2).trans rfl
            have g3 := (obj_cell hbl 3).trans rfl
            have g4 := (obj_cell hbl 4).trans rfl
            have g5 := (obj_cell hbl 5).trans rfl
            have g6 := (obj_cell hbl 6).trans rfl
            have hxl2 := lt_of_block hbl
            have HE := Lib.hid (And.intro hq (And.intro hown (And.intro hl2 hB)))
            clear hq hown hl2 hoi hbl hB
            go_wp2_with fail
            have hkk : k * 1049000 ≤ 1048576 * 1049000 := Nat.mul_le_mul_right _ (by omega)
            with_reducible refine Calls.mono (HBy.out wr _ lt2 HE.out.2.1 (Nat.le_of_lt hql) (by have := HE.out.2.2.1; omega)) ?_
            rintro e w7 ⟨v7, l7, rfl, hown7, hl7, hB7, hK7, hN7, hS7⟩
            obtain ⟨A7, c7, rfl, -⟩ := hown7.form
            have hneq : (Value.slice At1 lt2.length ct1).ownBlock ≠ some w2.heap.size := fun e => ne_of_kind HE.out.2.1 e HE.out.1 (by decide) rfl
            have hq7 := (hK7 w2.heap.size hql hneq).trans HE.out.1
            have p7f := obj_frozen hq7 0
            have p7 := (obj_cell hq7 0).trans rfl
            have hq7l := lt_of_block hq7
            have H7 := Lib.hid (And.intro hq7 (And.intro hown7 (And.intro hl7 (hB7 _ HE.out.2.2.2))))
            clear hown7 hl7 hB7 hK7 hN7 hS7 hq7
            go_wp2_with fail
            go_roundw
            case rel =>
              exact ⟨k + 1, _, _, by omega, by go_num, obj_set H7.out.1 0 _, H7.out.2.1.keep fun g hg => Below.heap_setCell _ _ _ _ (fun e => ne_of_kind H7.out.2.1 hg H7.out.1 (by decide) e), by have h1 := H7.out.2.2.1; have h2 := HE.out.2.2.1; rw [Nat.add_mul]; omega, H7.out.2.2.2.setCell (Nat.le_refl _) _⟩
            case measure => simp [intOf]; omega
      · have t1 : decide ((k : Int) < (text.length : Int)) = false := decide_eq_false (by omega)
        obtain rfl : k = text.length := by omega
        obtain ⟨At, ct, rfl, -⟩ := hown.form
        have H5 := Lib.hid (And.intro hq hB)
        have hql := lt_of_block hq
        have HL0 := Lib.hid (OwnB.nil wr w2.heap.size)
        obtain ⟨W5, hW5⟩ : ∃ W5, W5 = wr := ⟨_, rfl⟩
        subst hW5
        clear hq hown hlt2 hB
        go_wp2_with fail
        go_loopw [68] (fun i wr => ∃ (k : Nat) (vd : Value) (ld : List UInt8), k ≤ data.length ∧ i = .int .i64 k ∧ wr.heap[w2.heap.size]? = some (.cells #[.slice At lt.length ct, vd, .slice none 0 0] 45 (0, 0)) ∧ OwnB wr w2.heap.size vd ld ∧ ld.length ≤ k * 1049000 ∧ Below w2.heap.size w2 wr) (fun i _ => data.length - (intOf i).toNat)
        case atStart => exact ⟨0, .slice none 0 0, [], Nat.zero_le _, rfl, H5.out.1, HL0.out, Nat.zero_le _, H5.out.2⟩
        case round =>
          obtain ⟨k, vd, ld, hk, rfl, hq, hown, hld, hB⟩ := hrel
          by_cases hlt : k < data.length
          · have t1 : decide ((k : Int) < (data.length : Int)) = true := decide_eq_true (by omega)
            have hku : (k : Int) < (data.length : Int) := by omega
            have hPr := H2.out.2.2.1.keep hB
            obtain ⟨b, o, e0, hb, x0, x1, x2, x3, x4, x5, x6⟩ := item_at hPr.dt2 k hlt
            cases e0
            have hmem := List.mem_append_right text (List.getElem_mem hlt)
            have HBy0 := fun (W : World) (v : Value) (l : List UInt8) (hv : OwnB W w2.heap.size v l) (hb : w2.heap.size ≤ W.heap.size) (hl' : l.length ≤ 100000000000000) => r5bytes_any W w2.heap.size v l data[k] hv hb (HCK.out.ok _ hmem).2.2.2.2.2 (HNI.out _ hmem) hl'
            have hcs : (data[k]).cs = #[.int .i64 (data[k]).k, .string (data[k]).s, .int .i64 (data[k]).op, .int .i64 (data[k]).rd, .int .i64 (data[k]).a, .int .i64 (data[k]).b, .int .i64 (data[k]).n] := rfl
            rw [hcs] at HBy0
            clear hcs hmem
            unfold PutTo at HBy0
            generalize data[k].k = v0 at *
            generalize data[k].s = v1 at *
            generalize data[k].op = v2 at *
            generalize data[k].rd = v3 at *
            generalize data[k].a = v4 at *
            generalize data[k].b = v5 at *
            generalize data[k].n = v6 at *
            have HBy := Lib.hid HBy0
            obtain ⟨Ad1, cd1, rfl, -⟩ := hown.form
            obtain ⟨WA, hWA⟩ : ∃ WA, WA = wr.alloc (.cells #[.int .i64 v0, .string v1, .int .i64 v2, .int .i64 v3, .int .i64 v4, .int .i64 v5, .int .i64 v6] 61) := ⟨_, rfl⟩
            have hBA : Below wr.heap.size wr WA := by rw [hWA]; exact form1 wr _
            have hbl : WA.heap[wr.heap.size]? = some (.cells #[.int .i64 v0, .string v1, .int .i64 v2, .int .i64 v3, .int .i64 v4, .int .i64 v5, .int .i64 v6] 61 (0, 0)) := by rw [hWA]; exact heap_alloc_new wr _
            have hqA := (hBA.block w2.heap.size (lt_of_block hq)).trans hq
            have hqlA := lt_of_block hqA
            have q1 := (obj_cell hqA 1).trans rfl
            have q1f := obj_frozen hqA 1
            have g0 := (obj_cell hbl 0).trans rfl
            have g1 := (obj_cell hbl 1).trans rfl
            have g2 := (obj_cell hbl 2).trans rfl
            have g3 := (obj_cell hbl 3).trans rfl
            have g4 := (obj_cell hbl 4).trans rfl
            have g5 := (obj_cell hbl 5).trans rfl
            have g6 := (obj_cell hbl 6).trans rfl
            have hgl := lt_of_block hbl
            have HWA := Lib.hid hWA
            have HE := Lib.hid (And.intro hqA (And.intro (hown.below hBA) (And.intro hld (hB.trans (hBA.mono hB.size)))))
            clear hPr HBy0 hWA hBA hbl hqA hq hown hld hB
            go_upto_region 18 with fail
            rw [← HWA.out]
            go_wp2_with fail
            have hkk : k * 1049000 ≤ 1048576 * 1049000 := Nat.mul_le_mul_right _ (by omega)
            with_reducible refine Calls.mono (HBy.out WA _ ld HE.out.2.1 (Nat.le_of_lt hqlA) (by have := HE.out.2.2.1; omega)) ?_
            rintro e w7 ⟨v7, l7, rfl, hown7, hl7, hB7, hK7, hN7, hS7⟩
            obtain ⟨A7, c7, rfl, -⟩ := hown7.form
            have hneq : (Value.slice Ad1 ld.length cd1).ownBlock ≠ some w2.heap.size := fun e => ne_of_kind HE.out.2.1 e HE.out.1 (by decide) rfl
            have hq7 := (hK7 w2.heap.size hqlA hneq).trans HE.out.1
            have p7f := obj_frozen hq7 1
            have p7 := (obj_cell hq7 1).trans rfl
            have hq7l := lt_of_block hq7
            have H7 := Lib.hid (And.intro hq7 (And.intro hown7 (And.intro hl7 (hB7 _ HE.out.2.2.2))))
            clear hown7 hl7 hB7 hK7 hN7 hS7 hq7
            go_wp2_with fail
            go_roundw
            case rel =>
              exact ⟨k + 1, _, _, by omega, by go_num, obj_set H7.out.1 1 _, H7.out.2.1.keep fun g hg => Below.heap_setCell _ _ _ _ (fun e => ne_of_kind H7.out.2.1 hg H7.out.1 (by decide) e), by have h1 := H7.out.2.2.1; have h2 := HE.out.2.2.1; rw [Nat.add_mul]; omega, H7.out.2.2.2.setCell (Nat.le_refl _) _⟩
            case measure => simp [intOf]; omega
          · have t1 : decide ((k : Int) < (data.length : Int)) = false := decide_eq_false (by omega)
            obtain rfl : k = data.length := by omega
            obtain ⟨Ad, cd, rfl, -⟩ := hown.form
            have hPr := H2.out.2.2.1.keep hB
            obtain ⟨Au, cu, rfl, -⟩ := hPr.ats.form
            have a3 := (obj_cell hPr.str 3).trans rfl
            have hpl := hPr.lt
            have H6 := Lib.hid (And.intro hq hB)
            have HL6 := Lib.hid (OwnL.nil wr w2.heap.size)
            obtain ⟨W6, hW6⟩ : ∃ W6, W6 = wr := ⟨_, rfl⟩
            subst hW6
            have hUn : U.length = text.length + data.length := H2.out.2.2.2.2
            have HUn := Lib.hid hUn
            obtain ⟨un, hun⟩ : ∃ un, un = U.length := ⟨_, rfl⟩
            have hunl : un ≤ 1048576 := by have := HCK.out.len; omega
            clear hPr hq hown hld hB hUn
            go_wp2_with fail
            go_loopw [83] (fun i wr => ∃ (k : Nat) (vl : Value) (L : List Lab), k ≤ U.length ∧ i = .int .i64 k ∧ wr.heap[w2.heap.size]? = some (.cells #[.slice At lt.length ct, .slice Ad ld.length cd, vl] 45 (0, 0)) ∧ OwnL wr w2.heap.size vl L ∧ L.length ≤ k ∧ Below w2.heap.size w2 wr) (fun i _ => U.length - (intOf i).toNat)
            case atStart => exact ⟨0, .slice none 0 0, [], Nat.zero_le _, rfl, H6.out.1, HL6.out, Nat.zero_le _, H6.out.2⟩
            case round =>
              obtain ⟨k, vl, L, hk, rfl, hq, hown, hL, hB⟩ := hrel
              obtain ⟨Al, cl, rfl, -⟩ := hown.form
              by_cases hlt : k < U.length
              · have t1 : decide ((k : Int) < (U.length : Int)) = true := decide_eq_true (by omega)
                have hku : (k : Int) < (U.length : Int) := by omega
                have hka : k < (text ++ data).length := by rw [List.length_append, ← HUn.out]; exact hlt
                have HI0 := fun W (hW : Below w2.heap.size w2 W) => r5item_any W1.heap.size W p TA tc text DA dc data zv (.slice Au U.length cu) S U (H2.out.2.2.1.keep hW) hl k hka
                obtain ⟨x, hx⟩ : ∃ x, (text ++ data)[k] = x := ⟨_, rfl⟩
                simp only [hx] at HI0
                clear hx
                obtain ⟨v0, v1, v2, v3, v4, v5, v6⟩ := x
                have HI := Lib.hid (show ∀ (W : World) (_ : Below w2.heap.size w2 W), Calls Tryd.prog 55 #[.pointer (some ⟨p, 0, none⟩), .int .i64 (k : Int)] W (fun e w' => e = .returned (.agg #[.int .i64 v0, .string v1, .int .i64 v2, .int .i64 v3, .int .i64 v4, .int .i64 v5, .int .i64 v6]) ∧ Below W.heap.size W w') from HI0)
                have HH := Lib.hid (And.intro hq (And.intro hown (And.intro hL hB)))
                have hql := lt_of_block hq
                clear HI0 hq hown hL hB
                go_wp2_with fail
                with_reducible refine Calls.mono (HI.out _ HH.out.2.2.2) ?_
                rintro e w8 ⟨rfl, hB8⟩
                obtain ⟨W9, hW9⟩ : ∃ W9, W9 = w8.alloc (.cells #[.int .i64 v0, .string v1, .int .i64 v2, .int .i64 v3, .int .i64 v4, .int .i64 v5, .int .i64 v6] 61) := ⟨_, rfl⟩
                have hBx : Below wr.heap.size wr W9 := by rw [hW9]; exact hB8.trans ((form1 w8 _).mono hB8.size)
                have hbl : W9.heap[w8.heap.size]? = some (.cells #[.int .i64 v0, .string v1, .int .i64 v2, .int .i64 v3, .int .i64 v4, .int .i64 v5, .int .i64 v6] 61 (0, 0)) := by rw [hW9]; exact heap_alloc_new w8 _
                have hq9 := (hBx.block w2.heap.size hql).trans HH.out.1
                have hB29 := HH.out.2.2.2.trans (hBx.mono HH.out.2.2.2.size)
                have hP9 := H2.out.2.2.1.keep hB29
                have hu9 := hP9.ats.form
                obtain ⟨Au9, cu9, eu9, hcu⟩ := hu9
                simp only [Value.slice.injEq] at eu9
                obtain ⟨rfl, -, -⟩ := eu9
                obtain ⟨bu, ou, eU, hbu, u0⟩ := u_at5 hcu k hlt
                subst eU
                have HW9 := Lib.hid hW9
                have g0 := (obj_cell hbl 0).trans rfl
                have g1 := (obj_cell hbl 1).trans rfl
                have hgl := lt_of_block hbl
                have a3' := (obj_cell hP9.str 3).trans rfl
                have hpl9 := hP9.lt
                have p2 := (obj_cell hq9 2).trans rfl
                have p2f := obj_frozen hq9 2
                have hql9 := lt_of_block hq9
                generalize (U[k] : Nat) = q at *
                have hownW : OwnL (W9.alloc (.cells #[.string v1, .int .u64 (q : Int)] 50)).drew w2.heap.size (.slice Al L.length cl) L := owns_below (owns_below HH.out.2.1 hBx) (form1 W9 _).drew
                have hlit : Cs (W9.alloc (.cells #[.string v1, .int .u64 (q : Int)] 50)).drew.heap.size (W9.alloc (.cells #[.string v1, .int .u64 (q : Int)] 50)).drew (some ⟨W9.heap.size, 0, none⟩) (lcells [(v1, q)]) := lit_l W9 v1 q
                have hbs : w2.heap.size ≤ (W9.alloc (.cells #[.string v1, .int .u64 (q : Int)] 50)).drew.heap.size := by show _ ≤ (W9.alloc _).heap.size; rw [World.size_alloc]; omega
                have hlen1 : L.length + 1 ≤ 1000000000 := by have := HH.out.2.2.1; omega
                have HLW := Lib.hid (And.intro hownW (And.intro hlit (And.intro hlen1 hbs)))
                have HX9 := Lib.hid (And.intro hBx (And.intro hq9 hB29))
                clear hlen1 hP9 hcu hBx hq9 hB29 hbl hB8 hownW hlit hbs hW9
                by_cases hk1 : v0 = 1
                · subst hk1
                  go_upto_region 24 with fail
                  rw [← HW9.out]
                  go_upto_region 25 with fail
                  go_region_law (refine step_appL rfl (.tmp 93) (.tmp 104) rfl w2.heap.size (.slice Al L.length cl) L rfl HLW.out.1 _ (some ⟨W9.heap.size, 0, none⟩) 1 1 [(v1, q)] rfl rfl HLW.out.2.1 HLW.out.2.2.1 HLW.out.2.2.2 ?_
                                 intro v10 w10 hown10 hB10 hk10 hs10
                                 obtain ⟨A10, c10, e10, -⟩ := hown10.form
                                 rw [show (L ++ [(v1, q)]).length = L.length + 1 by simp] at e10
                                 subst e10
                                 have hneq : (Value.slice Al L.length cl).ownBlock ≠ some w2.heap.size := fun e => ne_of_kind HH.out.2.1 e HH.out.1 (by decide) rfl
                                 have hq10 := (hk10 w2.heap.size (by show _ < (W9.alloc _).heap.size; rw [World.size_alloc]; omega) hneq).trans ((Below.heap_alloc W9 _ w2.heap.size hql9).trans HX9.out.2.1)
                                 have hB210 := hB10 w2 ((HX9.out.2.2.alloc HX9.out.2.2.size _).drew)
                                 have s2 := (obj_cell hq10 2).trans rfl
                                 have s2f := obj_frozen hq10 2
                                 have hl10 := lt_of_block hq10
                                 have HR := Lib.hid (And.intro hown10 (And.intro hq10 hB210))
                                 clear hown10 hB10 hk10 hq10 hB210 hs10)
                  all_goals
                    go_wp2_with fail
                    go_roundw
                    case rel =>
                      exact ⟨k + 1, _, L ++ [(v1, q)], by omega, by go_num, obj_set HR.out.2.1 2 _, owns_keep HR.out.1 (fun g hg => Below.heap_setCell _ _ _ _ (fun e => ne_of_kind HR.out.1 hg HR.out.2.1 (by decide) e)), by have := HH.out.2.2.1; simp; omega, HR.out.2.2.setCell (Nat.le_refl _) _⟩
                    case measure => simp [intOf]; omega
                · have tk : (v0 == 1) = false := by simpa using hk1
                  clear hk1
                  go_upto_region 24 with fail
                  rw [← HW9.out]
                  go_wp2_with fail
                  go_roundw
                  case rel => exact ⟨k + 1, _, L, by omega, by go_num, HX9.out.2.1, owns_below HH.out.2.1 HX9.out.1, by have := HH.out.2.2.1; omega, HX9.out.2.2⟩
                  case measure => simp [intOf]; omega
              · have t1 : decide ((k : Int) < (U.length : Int)) = false := decide_eq_false (by omega)
                have hqz : wr.heap[w.heap.size]? = some (.cells #[.slice none 0 0, .slice none 0 0, .slice none 0 0] 45 (0, 0)) := (hB.block w.heap.size hzl2).trans H2.out.2.1
                have c0 := (obj_cell hq 0).trans rfl
                have c1 := (obj_cell hq 1).trans rfl
                have c2 := (obj_cell hq 2).trans rfl
                have hql6 := lt_of_block hq
                obtain ⟨⟨z0, z1, z2⟩, z3, z4, z5⟩ := code_zero hqz
                have hzl6 := lt_of_block hqz
                have HF := Lib.hid (And.intro hqz (And.intro (own_set3 hown hzl2 (Nat.le_of_lt hzl2) (.slice At lt.length ct) (.slice Ad ld.length cd) (.slice Al L.length cl)) (H2.out.1.trans (hB.mono H2.out.1.size))))
                clear hq hown hL hB hqz
                go_wp2_with fail
                exact code_ret5 _ _ w.heap.size _ _ _ HF.out.1 _ _ _ _ _ _ rfl rfl rfl (HX.out At Ad Al lt.length ct ld.length cd cl _ _ L _ HF.out.2.1 (below_set3 HF.out.2.2 (Nat.le_refl _) _ _ _))
end
end Go.Proofs

/- patinalaw05.AsmFinds: its walk and its proof. -/
namespace Go.Proofs
open Go Go.RowKit Go.Pat
section
variable (w : World) (TA : Option Addr) (tc : Nat) (text : List It) (DA : Option Addr) (dc : Nat) (data : List It) (at_ dat : Nat)
theorem owns_len5 {w : World} {base n size : Nat} {e : TypeId} {v : Value} {xs : List Value} (h : w.ownsRow base e size v n xs) : n ≤ maxLen := by
  rcases h.2 with ⟨_, h0⟩ | ⟨g, cap, cur, _, _, _, h1, h2, _⟩
  · rw [h0]; exact Nat.zero_le _
  · exact Nat.le_trans h1 h2
set_option maxRecDepth 20000 in
set_option maxHeartbeats 8000000 in
theorem AsmFinds_any (hT : Cs w.heap.size w TA (tcells text)) (hD : Cs w.heap.size w DA (tcells data)) (hns : ∀ x ∈ text ++ data, x.s.size ≤ maxLen) (hni : ∀ x ∈ text ++ data, -9223372036854775808 ≤ x.n ∧ x.n < 9223372036854775808)
    (htz : TzTab w) (hrv : RvRows w) (hl : text.length + data.length ≤ 1000000000000000) (s : ByteArray) :
    Calls Tryd.prog 5 #[.agg #[.slice TA text.length tc, .slice DA data.length dc, .int .u64 (at_ : Int), .int .u64 (dat : Int)], .string s] w (TrueTo w) := by
  have htl : text.length ≤ maxLen := by unfold maxLen; omega
  have hdl : data.length ≤ maxLen := by unfold maxLen; omega
  have HS := Lib.hid (fun W (hW : Below w.heap.size w W) => small5_any W (hrv.below hW) (htz.below hW))
  have HW := Lib.hid (fun W (hW : Below w.heap.size w W) => wide5_any W TA tc text DA dc data (at_ : Int) (dat : Int) ((hT.below hW).more hW.size) ((hD.below hW).more hW.size) htl hdl)
  have HA := Lib.hid (fun W (hW : Below w.heap.size w W) => r5Assemble_any W TA tc text DA dc data ((hT.below hW).more hW.size) ((hD.below hW).more hW.size) hl hns hni at_ dat)
  have hc1 := heap_alloc_new w (.cells #[.slice TA text.length tc, .slice DA data.length dc, .int .u64 (at_ : Int), .int .u64 (dat : Int)] 40)
  have HC1 := Lib.hid hc1
  clear hT hD hns hni htz hrv hl htl hdl hc1
  go_enter Tryd.func5, Tryd.ntmps5
  go_wp2_with (go_at_call 16
               with_reducible refine (HW.out _ (form1 w _)).mono ?_
               rintro e w2 ⟨b, rfl, hB2⟩
               have hc2 := (hB2.block w.heap.size (by rw [World.size_alloc]; omega)).trans HC1.out
               have g0 := (obj_cell hc2 0).trans rfl
               have g1 := (obj_cell hc2 1).trans rfl
               have g2 := (obj_cell hc2 2).trans rfl
               have g3 := (obj_cell hc2 3).trans rfl
               have HB := Lib.hid (And.intro ((form1 w _).trans (hB2.mono (form1 w _).size)) hc2)
               have hl2 := lt_of_block hc2
               clear hB2 hc2)
  · with_reducible refine Calls.mono (HS.out _ HB.out.1) ?_
    rintro e w' ⟨rfl, hB⟩
    go_wp2_with fail
    go_ret
    exact ⟨rfl, HB.out.1.trans (hB.mono HB.out.1.size)⟩
  · with_reducible refine Calls.mono (HA.out _ HB.out.1) ?_
    rintro e w3 ⟨At, Ad, Al, nt, ct, nd, cd, cl, z, i, L, rfl, hown, hB3⟩
    have hll : L.length ≤ 9223372036854775807 := by
      have h0 := owns_len5 hown
      unfold maxLen at h0
      omega
    obtain ⟨A9, c9, e9, hcs⟩ := OwnL.form hown
    simp only [Value.slice.injEq] at e9
    obtain ⟨rfl, -, rfl⟩ := e9
    have hB03 := HB.out.1.trans (hB3.mono HB.out.1.size)
    have HF := Lib.hid (fun W (hW : Below w3.heap.size w3 W) => aFind_any W (.slice At nt ct) (.slice Ad nd cd) Al L.length cl L s ((hcs.below hW).more hW.size) rfl hll)
    have HR := Lib.hid (fun W (hW : Below w3.heap.size w3 W) => r5Find_any W (.slice At nt ct) (.slice Ad nd cd) Al L.length cl L s ((hcs.below hW).more hW.size) rfl hll)
    obtain ⟨⟨fa, fb⟩, hf⟩ : ∃ f, findM L s = f := ⟨_, rfl⟩
    rw [hf] at HF HR
    have H3 := Lib.hid hB03
    have hb3 := heap_alloc_new w3 (.cells #[.slice At nt ct, .slice Ad nd cd, .slice Al L.length cl] 45)
    have Hb3 := Lib.hid hb3
    clear hB3 hown hcs hB03 hf hb3
    have ta : ((fa : Int) == (fa : Int)) = true := by simp
    have tb : (fb == fb) = true := by simp
    go_wp2_with (first
      | (go_at_call 20
         with_reducible refine (HF.out _ (form1 w3 _)).mono ?_
         rintro e w4 ⟨rfl, hB4⟩
         have hb4 := (hB4.block w3.heap.size (by rw [World.size_alloc]; omega)).trans Hb3.out
         have k0 := (obj_cell hb4 0).trans rfl
         have k1 := (obj_cell hb4 1).trans rfl
         have k2 := (obj_cell hb4 2).trans rfl
         have hl4 := lt_of_block hb4
         have H4 := Lib.hid ((form1 w3 (.cells #[.slice At nt ct, .slice Ad nd cd, .slice Al L.length cl] 45)).trans (hB4.mono (form1 w3 _).size))
         clear hB4 hb4)
      | (go_at_call 21
         with_reducible refine (HR.out _ H4.out).mono ?_
         rintro e w5 ⟨rfl, hB5⟩
         have H5 := Lib.hid (H3.out.trans ((H4.out.trans (hB5.mono H4.out.size)).mono H3.out.size))
         clear hB5)
      | (go_at_call 13
         with_reducible refine (HS.out _ H5.out).mono ?_
         rintro e w' ⟨rfl, hB9⟩))
    go_ret
    exact ⟨rfl, H5.out.trans (hB9.mono H5.out.size)⟩
end
section
open Go.Joins Go.ChangeShapes Go.WideShapes Go.Deep
variable {H : Type} {enc : TypeId × Value → H} {w : World} {base : Nat} {spare : Nat → Bool} {held : Bool}
theorem items_len {fuel : Nat} {A : Option Addr} {n c : Nat} {x : DataW H × List MemPlace} (h : DataW.trod enc Tryd.prog w base spare held fuel 38 [.slice A n c] = some x) (hs : ∀ m ∈ x.1.weights Tryd.prog 38, m ≤ reachBytes) : n ≤ 140737488351232 := by
  rcases open_slice Tryd.underlying38 h with ⟨e, _⟩ | ⟨a, len, cap, m, n', D, Pl, e, hb, hl, hm, hmm, hx, hi⟩
  · simp only [List.cons.injEq, Value.slice.injEq, and_true] at e
    omega
  · simp only [List.cons.injEq, Value.slice.injEq, and_true] at e
    obtain ⟨-, rfl, -⟩ := e
    rw [hx] at hs
    obtain ⟨hw1, _⟩ := slice_weights Tryd.underlying38 hs
    have hb1 : 1 ≤ Tryd.prog.bytesOf 61 := of_decide_eq_true (by kernel_rfl)
    simp only [List.length_map, List.length_range, reachBytes] at hw1
    have h2 := Nat.le_mul_of_pos_right (n + (m - n)) hb1
    omega
theorem case5_len {fuel : Nat} {TA DA : Option Addr} {n tc m dc : Nat} {z1 z2 : Value} {x : DataW H × List MemPlace} (h : DataW.trod enc Tryd.prog w base spare held fuel 40 [.slice TA n tc, .slice DA m dc, z1, z2] = some x) (hs : ∀ k ∈ x.1.weights Tryd.prog 40, k ≤ reachBytes) :
    n ≤ 140737488351232 ∧ m ≤ 140737488351232 := by
  obtain ⟨xs, k, _, rfl, hl, hn, hf⟩ := DataW.trod_struct Tryd.underlying40 h
  obtain ⟨e1, e2, e3, e4, e5, e6, e7, e8⟩ := c5_names
  obtain ⟨y0, y1, y2, y3, rfl⟩ := lst4 (show xs.length = 4 from hn)
  have g0 : DataW.trod enc Tryd.prog w base spare held k 38 (([Value.slice TA n tc, .slice DA m dc, z1, z2].drop 0).take (Tryd.prog.cellsOf 38)) = some y0 := hf 0 _ rfl
  have g1 : DataW.trod enc Tryd.prog w base spare held k 38 (([Value.slice TA n tc, .slice DA m dc, z1, z2].drop 1).take (Tryd.prog.cellsOf 38)) = some y1 := hf 1 _ rfl
  rw [e6] at g0 g1
  have w0 : ∀ k ∈ y0.1.weights Tryd.prog 38, k ≤ reachBytes := agg_weights Tryd.underlying40 hs 0 rfl rfl
  have w1 : ∀ k ∈ y1.1.weights Tryd.prog 38, k ≤ reachBytes := agg_weights Tryd.underlying40 hs 1 rfl rfl
  exact ⟨items_len g0 w0, items_len g1 w1⟩
end
end Go.Proofs

/- patinalaw05.AsmFinds answers true for every input, and leaves its arguments as they were; the card ties the tables of patina/rv and of math/bits to the program's text. No condition but the tied one. -/
namespace Go.Proofs.YtemngapfnkokiaaDoor
open Go Go.ChangeShapes Go.WideShapes Go.ChangeAt Go.RowKit Go.Pat Go.Joins Go.WideMaps Go.WideElems

theorem own : ownKnob Tryd.prog.godebug = none := by kernel_rfl
theorem laidOut : laidOutB Tryd.prog = true := by kernel_rfl
theorem door_met (os : Os) (args : Array Value) : laidMetH Tryd.prog Rows.asmFindsRow.laid ((World.doorLaid Tryd.prog 84 os).forCall (fun _ _ => 0) ⟨#[], args, []⟩).memory :=
  laidMetH_of_parts3 (fuel := 8) (laidMet_of_run' 8 (by kernel_rfl) (by kernel_rfl)) (by kernel_rfl) (by kernel_rfl)

set_option maxRecDepth 100000 in
set_option maxHeartbeats 1000000 in
theorem asmFinds_lifted (os : Os) (started : os.Started) (H : Type) (enc : TypeId × Value → H) :
    ReturnsInHanded {} Tryd.checked os 5 .any (fun w args => (Rows.asmFindsSpec.pre enc Tryd.prog Tryd.f5 [] false w args ∧ laidMetH Tryd.prog Rows.asmFindsRow.laid w) ∧ sizedMet enc Tryd.prog Tryd.f5 (OpenSpec.ofChange Rows.asmFindsSpec) false w args)
      (Rows.asmFindsSpec.post enc Tryd.prog Tryd.f5 false true false false) := by
  refine returnsInHanded_of_change_and (C := Tryd.checked) (X := fun w _ => laidMetH Tryd.prog Rows.asmFindsRow.laid w) (fun _ _ _ hh h => h.of_heap hh) own started (by kernel_rfl) Tryd.func5
    (ChangeSpec.witness_shaped (enc := enc) (C := Tryd.checked) (os := os) (X := fun w _ => laidMetH Tryd.prog Rows.asmFindsRow.laid w) false (World.doorLaid Tryd.prog 84 os) #[.agg #[.slice none 0 0, .slice none 0 0, .int .u64 0, .int .u64 0], .string ⟨#[]⟩] 8 rfl (World.shaped_of_RefB (by kernel_rfl) (by kernel_rfl)) (by kernel_rfl) (by kernel_rfl) (by kernel_rfl) (door_met os _)) ?_
  intro W base args ds gs before hval0 hW hcnd hsz0 hL _
  have hval : ∀ (j : Nat) t v, Tryd.f5.params[j]? = some t → args[j]? = some v → Value.okWide Tryd.prog W .any base t v := hval0
  have hW' := hW
  obtain ⟨p, q, hA0, hV, rfl, hfz, hnd⟩ := hW
  have hA : DataW.TrodAll enc Tryd.prog W 0 (fun _ => true) true Tryd.f5.params.toList args.toList ds p := hA0
  have hA1 := hA
  rw [Tryd.params5] at hA hval
  obtain ⟨v0, v1, d0, d1, p0, p1, rfl, rfl, rfl, h0, h1⟩ := trodAll_two hA
  obtain ⟨rfl, rfl⟩ := trodVars_none hV
  rw [List.append_nil] at hW'
  obtain ⟨s, rfl⟩ := okWide_string Tryd.underlying9 (hval 1 9 v1 rfl rfl)
  have hsz : (DataW.weightsEach Tryd.prog [40, 9] [d0, d1]).all (fun x => decide (x ≤ reachBytes)) = true := hsz0
  have hwt0 : ∀ n ∈ d0.weights Tryd.prog 40, n ≤ reachBytes := fun n hn => by simpa using List.all_eq_true.1 hsz n (DataW.weights_mem_each (j := 0) rfl rfl n hn)
  obtain ⟨cs, rfl, -⟩ := okWide_struct Tryd.underlying40 (hval 0 40 v0 rfl rfl)
  obtain ⟨fuel0, hf0⟩ := h0
  obtain ⟨TA, tc, text, DA, dc, data, at_, dat, e0, hT, hD, hy, htl, hdl, hat, hdat⟩ := open_case5 hf0
  have e1 : cs = #[.slice TA text.length tc, .slice DA data.length dc, .int .u64 (at_ : Int), .int .u64 (dat : Int)] := by
    have e2 : cs.toList = [.slice TA text.length tc, .slice DA data.length dc, .int .u64 (at_ : Int), .int .u64 (dat : Int)] := e0
    exact Array.toList_inj.1 (e2.trans rfl)
  subst e1
  obtain ⟨hn1, hn2⟩ := case5_len hf0 hwt0
  obtain ⟨hTz, hRv⟩ := tabs_laid hL
  refine (AsmFinds_any W TA tc text DA dc data at_ dat hT hD (fun y h => (hy y h).1) (fun y h => (hy y h).2) hTz hRv (by omega) s).mono fun e W' ⟨he, hw⟩ => ?_
  subst he
  exact ⟨_, rfl, post_below hW' hA1 laidOut (by rw [Tryd.params5]; intro t ht; simp only [List.mem_cons, List.not_mem_nil, or_false] at ht; rcases ht with rfl | rfl <;> exact ⟨by kernel_rfl, of_decide_eq_true (by kernel_rfl)⟩) hw rfl rfl rfl (fun _ _ _ => trodAll_mk1 (shut_bool Tryd.underlying4 _))⟩

set_option maxRecDepth 100000 in
theorem asmFinds_said : Rows.AsmFindsSaid :=
  OpenClaim.holds_of_wide 5 Tryd.f5 rfl rfl rfl rfl rfl rfl rfl ⟨rfl, rfl, rfl, rfl, rfl⟩ rfl rfl rfl rfl rfl (by kernel_rfl) Tryd.func5 (by kernel_rfl)
    (of_decide_eq_true (by kernel_rfl)) (by unfold Func.isWrapper; first | (rw [if_pos (by decide +kernel)]; kernel_rfl) | (rw [if_neg (by decide +kernel)]; exact ⟨rfl, rfl⟩))
    (fun os started H enc _ => asmFinds_lifted os started H enc)

set_option maxRecDepth 100000 in
theorem asmFinds_holds : Rows.AsmFindsCardSaid :=
  Claim7.holds_tied_plain_at .later [] [.data, .data] true Rows.asmFindsCard.stood.harness false
    asmFinds_said (fun _ h => by cases h) (by kernel_rfl) (fun _ h => by cases h) asmFinds_row_tie rfl ⟨rfl, rfl⟩ (by kernel_rfl) rfl
    (fun f fn hf hfn => by
      obtain rfl : f = 5 := Option.some.inj ((show Tryd.prog.funcNamed "patina/patinalaw05.AsmFinds" = some 5 by kernel_rfl).symm.trans hf) |>.symm
      obtain rfl : fn = Tryd.f5 := (Option.some.inj (Tryd.func5.symm.trans hfn)).symm
      exact ⟨by kernel_rfl, fun j t ht => by
        rw [Tryd.params5] at ht
        have hm : t ∈ [40, 9] := by simpa using Array.mem_of_getElem? ht
        have hall : ([40, 9].all fun u => !Tryd.prog.wantsStandIn u) = true := by kernel_rfl
        exact (show Tryd.prog.wantsStandIn t = false by simpa using List.all_eq_true.1 hall t hm)⟩)
    (by kernel_rfl)
#print axioms asmFinds_holds
end Go.Proofs.YtemngapfnkokiaaDoor
