/- patinaref01.Has, reg, imm, Right. -/
import Derived.Test.YtemngapfnkokiaaDoorFormC
import Derived.BigQuiet
import Derived.Deep.QuietTactic
namespace Go.Pat
open Go Go.RowKit
def lettersL : List Nat := [0, 85, 74, 73, 66, 83, 72, 104, 82, 78]
theorem formR_letter (op : Nat) : (formR op).1 ∈ lettersL := by
  by_cases h : op < 66
  · exact (show ∀ k, k < 66 → (formR k).1 ∈ lettersL by decide) op h
  · unfold formR
    rw [List.getD_eq_getElem?_getD, List.getElem?_eq_none (show formsT.length ≤ op by show 66 ≤ _; omega)]
    decide
def regB (r : Int) (named : Bool) : Bool := if named then decide (0 ≤ r) && decide (r ≤ 31) else r == 0
/-- is a number in a form's range? -/
def immB1 (l : Nat) (n : Int) : Bool :=
  if l = 73 ∨ l = 83 then decide (-2048 ≤ n) && decide (n ≤ 2047)
  else if l = 66 then (decide (-4096 ≤ n) && decide (n ≤ 4094)) && (n % 2 == 0)
  else if l = 74 then (decide (-1048576 ≤ n) && decide (n ≤ 1048574)) && (n % 2 == 0)
  else if l = 85 then decide (-524288 ≤ n) && decide (n ≤ 524287)
  else if l = 72 then decide (0 ≤ n) && decide (n ≤ 63)
  else if l = 104 then decide (0 ≤ n) && decide (n ≤ 31)
  else n == 0
def rightI (op rd a b n : Int) : Bool :=
  ((((((formZ op).1 : Int) != 0) && regB rd (hasD1 (formZ op).1)) && regB a (has11 (formZ op).1)) && regB b (has21 (formZ op).1)) && immB1 (formZ op).1 n
end Go.Pat
namespace Go.Proofs
open Go Go.RowKit Go.Pat
def HasTo (l : Nat) (w : World) (e : Ending) (w' : World) : Prop := e = .returned (.tuple #[.bool (hasD1 l), .bool (has11 l), .bool (has21 l)]) ∧ w' = w
theorem r1Has_0 (w : World) : Calls Tryd.prog 39 #[.int .u8 0] w (HasTo 0 w) := by
  go_enter Tryd.func39, Tryd.ntmps39
  go_wp2
  go_ret3
  exact ⟨rfl, rfl⟩
theorem r1Has_85 (w : World) : Calls Tryd.prog 39 #[.int .u8 85] w (HasTo 85 w) := by
  go_enter Tryd.func39, Tryd.ntmps39
  go_wp2
  go_ret3
  exact ⟨rfl, rfl⟩
theorem r1Has_74 (w : World) : Calls Tryd.prog 39 #[.int .u8 74] w (HasTo 74 w) := by
  go_enter Tryd.func39, Tryd.ntmps39
  go_wp2
  go_ret3
  exact ⟨rfl, rfl⟩
theorem r1Has_73 (w : World) : Calls Tryd.prog 39 #[.int .u8 73] w (HasTo 73 w) := by
  go_enter Tryd.func39, Tryd.ntmps39
  go_wp2
  go_ret3
  exact ⟨rfl, rfl⟩
theorem r1Has_66 (w : World) : Calls Tryd.prog 39 #[.int .u8 66] w (HasTo 66 w) := by
  go_enter Tryd.func39, Tryd.ntmps39
  go_wp2
  go_ret3
  exact ⟨rfl, rfl⟩
theorem r1Has_83 (w : World) : Calls Tryd.prog 39 #[.int .u8 83] w (HasTo 83 w) := by
  go_enter Tryd.func39, Tryd.ntmps39
  go_wp2
  go_ret3
  exact ⟨rfl, rfl⟩
theorem r1Has_72 (w : World) : Calls Tryd.prog 39 #[.int .u8 72] w (HasTo 72 w) := by
  go_enter Tryd.func39, Tryd.ntmps39
  go_wp2
  go_ret3
  exact ⟨rfl, rfl⟩
theorem r1Has_104 (w : World) : Calls Tryd.prog 39 #[.int .u8 104] w (HasTo 104 w) := by
  go_enter Tryd.func39, Tryd.ntmps39
  go_wp2
  go_ret3
  exact ⟨rfl, rfl⟩
theorem r1Has_82 (w : World) : Calls Tryd.prog 39 #[.int .u8 82] w (HasTo 82 w) := by
  go_enter Tryd.func39, Tryd.ntmps39
  go_wp2
  go_ret3
  exact ⟨rfl, rfl⟩
theorem r1Has_78 (w : World) : Calls Tryd.prog 39 #[.int .u8 78] w (HasTo 78 w) := by
  go_enter Tryd.func39, Tryd.ntmps39
  go_wp2
  go_ret3
  exact ⟨rfl, rfl⟩
theorem r1Has_any (l : Nat) (hl : l ∈ lettersL) (w : World) : Calls Tryd.prog 39 #[.int .u8 (l : Int)] w (HasTo l w) := by
  simp only [lettersL, List.mem_cons, List.not_mem_nil, or_false] at hl
  rcases hl with rfl | rfl | rfl | rfl | rfl | rfl | rfl | rfl | rfl | rfl
  · exact r1Has_0 w
  · exact r1Has_85 w
  · exact r1Has_74 w
  · exact r1Has_73 w
  · exact r1Has_66 w
  · exact r1Has_83 w
  · exact r1Has_72 w
  · exact r1Has_104 w
  · exact r1Has_82 w
  · exact r1Has_78 w
theorem r1reg_any (r : Int) (nm : Bool) (w : World) : Calls Tryd.prog 40 #[.int .i64 r, .bool nm] w fun e w' => e = .returned (.bool (regB r nm)) ∧ w' = w := by
  cases nm
  · cases t1 : (r == 0)
    · go_enter Tryd.func40, Tryd.ntmps40
      go_wp2
      go_ret
      exact ⟨by simp [regB, t1], rfl⟩
    · go_enter Tryd.func40, Tryd.ntmps40
      go_wp2
      go_ret
      exact ⟨by simp [regB, t1], rfl⟩
  · cases t1 : decide (0 ≤ r)
    · go_enter Tryd.func40, Tryd.ntmps40
      go_wp2
      go_ret
      exact ⟨by simp [regB, t1], rfl⟩
    · cases t2 : decide (r ≤ 31)
      · go_enter Tryd.func40, Tryd.ntmps40
        go_wp2
        go_ret
        exact ⟨by simp [regB, t1, t2], rfl⟩
      · go_enter Tryd.func40, Tryd.ntmps40
        go_wp2
        go_ret
        exact ⟨by simp [regB, t1, t2], rfl⟩
theorem tmod2 (n : Int) : (n.tmod 2 == 0) = (n % 2 == 0) := by
  rw [Bool.eq_iff_iff, beq_iff_eq, beq_iff_eq]
  constructor
  · intro h
    have := Int.dvd_of_tmod_eq_zero h
    omega
  · intro h
    exact Int.tmod_eq_zero_of_dvd (by omega)
theorem r1imm_0 (n : Int) (w : World) : Calls Tryd.prog 41 #[.int .u8 0, .int .i64 n] w fun e w' => e = .returned (.bool (immB1 0 n)) ∧ w' = w := by
  rw [show immB1 0 n = (n == 0) from rfl]
  cases t1 : (n == 0)
  · go_enter Tryd.func41, Tryd.ntmps41
    go_wp2
    go_ret
    exact ⟨rfl, rfl⟩
  · go_enter Tryd.func41, Tryd.ntmps41
    go_wp2
    go_ret
    exact ⟨rfl, rfl⟩
theorem r1imm_85 (n : Int) (w : World) : Calls Tryd.prog 41 #[.int .u8 85, .int .i64 n] w fun e w' => e = .returned (.bool (immB1 85 n)) ∧ w' = w := by
  rw [show immB1 85 n = (decide (-524288 ≤ n) && decide (n ≤ 524287)) from rfl]
  cases t1 : decide (-524288 ≤ n)
  · go_enter Tryd.func41, Tryd.ntmps41
    go_wp2
    go_ret
    exact ⟨rfl, rfl⟩
  · cases t2 : decide (n ≤ 524287)
    · go_enter Tryd.func41, Tryd.ntmps41
      go_wp2
      go_ret
      exact ⟨rfl, rfl⟩
    · go_enter Tryd.func41, Tryd.ntmps41
      go_wp2
      go_ret
      exact ⟨rfl, rfl⟩
theorem r1imm_74 (n : Int) (w : World) : Calls Tryd.prog 41 #[.int .u8 74, .int .i64 n] w fun e w' => e = .returned (.bool (immB1 74 n)) ∧ w' = w := by
  rw [show immB1 74 n = ((decide (-1048576 ≤ n) && decide (n ≤ 1048574)) && (n % 2 == 0)) from rfl]
  have tm : (n.tmod 2 == 0) = (n % 2 == 0) := tmod2 n
  cases t1 : decide (-1048576 ≤ n)
  · go_enter Tryd.func41, Tryd.ntmps41
    go_wp2
    go_ret
    exact ⟨rfl, rfl⟩
  · cases t2 : decide (n ≤ 1048574)
    · go_enter Tryd.func41, Tryd.ntmps41
      go_wp2
      go_ret
      exact ⟨rfl, rfl⟩
    · cases t3 : (n % 2 == 0)
      · rw [t3] at tm
        go_enter Tryd.func41, Tryd.ntmps41
        go_wp2
        go_ret
        exact ⟨rfl, rfl⟩
      · rw [t3] at tm
        go_enter Tryd.func41, Tryd.ntmps41
        go_wp2
        go_ret
        exact ⟨rfl, rfl⟩
theorem r1imm_73 (n : Int) (w : World) : Calls Tryd.prog 41 #[.int .u8 73, .int .i64 n] w fun e w' => e = .returned (.bool (immB1 73 n)) ∧ w' = w := by
  rw [show immB1 73 n = (decide (-2048 ≤ n) && decide (n ≤ 2047)) from rfl]
  cases t1 : decide (-2048 ≤ n)
  · go_enter Tryd.func41, Tryd.ntmps41
    go_wp2
    go_ret
    exact ⟨rfl, rfl⟩
  · cases t2 : decide (n ≤ 2047)
    · go_enter Tryd.func41, Tryd.ntmps41
      go_wp2
      go_ret
      exact ⟨rfl, rfl⟩
    · go_enter Tryd.func41, Tryd.ntmps41
      go_wp2
      go_ret
      exact ⟨rfl, rfl⟩
theorem r1imm_66 (n : Int) (w : World) : Calls Tryd.prog 41 #[.int .u8 66, .int .i64 n] w fun e w' => e = .returned (.bool (immB1 66 n)) ∧ w' = w := by
  rw [show immB1 66 n = ((decide (-4096 ≤ n) && decide (n ≤ 4094)) && (n % 2 == 0)) from rfl]
  have tm : (n.tmod 2 == 0) = (n % 2 == 0) := tmod2 n
  cases t1 : decide (-4096 ≤ n)
  · go_enter Tryd.func41, Tryd.ntmps41
    go_wp2
    go_ret
    exact ⟨rfl, rfl⟩
  · cases t2 : decide (n ≤ 4094)
    · go_enter Tryd.func41, Tryd.ntmps41
      go_wp2
      go_ret
      exact ⟨rfl, rfl⟩
    · cases t3 : (n % 2 == 0)
      · rw [t3] at tm
        go_enter Tryd.func41, Tryd.ntmps41
        go_wp2
        go_ret
        exact ⟨rfl, rfl⟩
      · rw [t3] at tm
        go_enter Tryd.func41, Tryd.ntmps41
        go_wp2
        go_ret
        exact ⟨rfl, rfl⟩
theorem r1imm_83 (n : Int) (w : World) : Calls Tryd.prog 41 #[.int .u8 83, .int .i64 n] w fun e w' => e = .returned (.bool (immB1 83 n)) ∧ w' = w := by
  rw [show immB1 83 n = (decide (-2048 ≤ n) && decide (n ≤ 2047)) from rfl]
  cases t1 : decide (-2048 ≤ n)
  · go_enter Tryd.func41, Tryd.ntmps41
    go_wp2
    go_ret
    exact ⟨rfl, rfl⟩
  · cases t2 : decide (n ≤ 2047)
    · go_enter Tryd.func41, Tryd.ntmps41
      go_wp2
      go_ret
      exact ⟨rfl, rfl⟩
    · go_enter Tryd.func41, Tryd.ntmps41
      go_wp2
      go_ret
      exact ⟨rfl, rfl⟩
theorem r1imm_72 (n : Int) (w : World) : Calls Tryd.prog 41 #[.int .u8 72, .int .i64 n] w fun e w' => e = .returned (.bool (immB1 72 n)) ∧ w' = w := by
  rw [show immB1 72 n = (decide (0 ≤ n) && decide (n ≤ 63)) from rfl]
  cases t1 : decide (0 ≤ n)
  · go_enter Tryd.func41, Tryd.ntmps41
    go_wp2
    go_ret
    exact ⟨rfl, rfl⟩
  · cases t2 : decide (n ≤ 63)
    · go_enter Tryd.func41, Tryd.ntmps41
      go_wp2
      go_ret
      exact ⟨rfl, rfl⟩
    · go_enter Tryd.func41, Tryd.ntmps41
      go_wp2
      go_ret
      exact ⟨rfl, rfl⟩
theorem r1imm_104 (n : Int) (w : World) : Calls Tryd.prog 41 #[.int .u8 104, .int .i64 n] w fun e w' => e = .returned (.bool (immB1 104 n)) ∧ w' = w := by
  rw [show immB1 104 n = (decide (0 ≤ n) && decide (n ≤ 31)) from rfl]
  cases t1 : decide (0 ≤ n)
  · go_enter Tryd.func41, Tryd.ntmps41
    go_wp2
    go_ret
    exact ⟨rfl, rfl⟩
  · cases t2 : decide (n ≤ 31)
    · go_enter Tryd.func41, Tryd.ntmps41
      go_wp2
      go_ret
      exact ⟨rfl, rfl⟩
    · go_enter Tryd.func41, Tryd.ntmps41
      go_wp2
      go_ret
      exact ⟨rfl, rfl⟩
theorem r1imm_82 (n : Int) (w : World) : Calls Tryd.prog 41 #[.int .u8 82, .int .i64 n] w fun e w' => e = .returned (.bool (immB1 82 n)) ∧ w' = w := by
  rw [show immB1 82 n = (n == 0) from rfl]
  cases t1 : (n == 0)
  · go_enter Tryd.func41, Tryd.ntmps41
    go_wp2
    go_ret
    exact ⟨rfl, rfl⟩
  · go_enter Tryd.func41, Tryd.ntmps41
    go_wp2
    go_ret
    exact ⟨rfl, rfl⟩
theorem r1imm_78 (n : Int) (w : World) : Calls Tryd.prog 41 #[.int .u8 78, .int .i64 n] w fun e w' => e = .returned (.bool (immB1 78 n)) ∧ w' = w := by
  rw [show immB1 78 n = (n == 0) from rfl]
  cases t1 : (n == 0)
  · go_enter Tryd.func41, Tryd.ntmps41
    go_wp2
    go_ret
    exact ⟨rfl, rfl⟩
  · go_enter Tryd.func41, Tryd.ntmps41
    go_wp2
    go_ret
    exact ⟨rfl, rfl⟩
theorem r1imm_any (l : Nat) (hl : l ∈ lettersL) (n : Int) (w : World) : Calls Tryd.prog 41 #[.int .u8 (l : Int), .int .i64 n] w fun e w' => e = .returned (.bool (immB1 l n)) ∧ w' = w := by
  simp only [lettersL, List.mem_cons, List.not_mem_nil, or_false] at hl
  rcases hl with rfl | rfl | rfl | rfl | rfl | rfl | rfl | rfl | rfl | rfl
  · exact r1imm_0 n w
  · exact r1imm_85 n w
  · exact r1imm_74 n w
  · exact r1imm_73 n w
  · exact r1imm_66 n w
  · exact r1imm_83 n w
  · exact r1imm_72 n w
  · exact r1imm_104 n w
  · exact r1imm_82 n w
  · exact r1imm_78 n w
set_option maxRecDepth 20000 in
set_option maxHeartbeats 4000000 in
theorem r1Right_any (op rd a b n : Int) (w : World) : Calls Tryd.prog 14 #[.agg #[.int .i64 op, .int .i64 rd, .int .i64 a, .int .i64 b, .int .i64 n]] w fun e w' => e = .returned (.bool (rightI op rd a b n)) ∧ Below w.heap.size w w' := by
  have hl : (formZ op).1 ∈ lettersL := formR_letter _
  have HF := Lib.hid (fun W => FormOf_any op W)
  unfold FormTo formV at HF
  unfold rightI
  generalize (formZ op).1 = l at *
  have HI := Lib.hid (fun W => r1imm_any l hl n W)
  have HH := Lib.hid (fun W => r1Has_any l hl W)
  unfold HasTo at HH
  have HG := Lib.hid (fun r nm W => r1reg_any r nm W)
  clear hl
  generalize hasD1 l = d1 at *
  generalize has11 l = d2 at *
  generalize has21 l = d3 at *
  generalize immB1 l n = d4 at *
  go_enter Tryd.func14, Tryd.ntmps14
  go_wp2_with fail
  refine Calls.mono (HF.out _) ?_
  rintro e w1 ⟨rfl, hB1⟩
  have hB0 : Below w.heap.size w (w.alloc (.cells #[.int .i64 op, .int .i64 rd, .int .i64 a, .int .i64 b, .int .i64 n] 32)) := form1 w _
  have hBw := hB0.trans (hB1.mono hB0.size)
  have hb1 : w1.heap[w.heap.size]? = some (.cells #[.int .i64 op, .int .i64 rd, .int .i64 a, .int .i64 b, .int .i64 n] 32 (0, 0)) := (hB1.block _ (by rw [World.size_alloc]; omega)).trans (heap_alloc_new w _)
  have x0 : w1.cell? ⟨w.heap.size, 0, none⟩ = some (.int .i64 op) := (obj_cell hb1 0).trans rfl
  have x1 : w1.cell? ⟨w.heap.size, 1, none⟩ = some (.int .i64 rd) := (obj_cell hb1 1).trans rfl
  have x2 : w1.cell? ⟨w.heap.size, 2, none⟩ = some (.int .i64 a) := (obj_cell hb1 2).trans rfl
  have x3 : w1.cell? ⟨w.heap.size, 3, none⟩ = some (.int .i64 b) := (obj_cell hb1 3).trans rfl
  have x4 : w1.cell? ⟨w.heap.size, 4, none⟩ = some (.int .i64 n) := (obj_cell hb1 4).trans rfl
  have hz : w.heap.size < w1.heap.size := by have := hB1.size; rw [World.size_alloc] at this; omega
  clear hb1 hB0
  cases t0 : ((l : Int) != 0)
  · go_wp2_with (first
      | (go_at_call 39; refine (HH.out _).mono ?_; rintro e w' ⟨rfl, rfl⟩)
      | (go_at_call 40; refine (HG.out _ _ _).mono ?_; rintro e w' ⟨rfl, rfl⟩)
      | (go_at_call 41; refine (HI.out _).mono ?_; rintro e w' ⟨rfl, rfl⟩))
    go_ret
    exact ⟨by simp [t0], hBw.alloc hBw.size _⟩
  · cases t1 : regB rd d1
    · go_wp2_with (first
        | (go_at_call 39; refine (HH.out _).mono ?_; rintro e w' ⟨rfl, rfl⟩)
        | (go_at_call 40; refine (HG.out _ _ _).mono ?_; rintro e w' ⟨rfl, rfl⟩)
        | (go_at_call 41; refine (HI.out _).mono ?_; rintro e w' ⟨rfl, rfl⟩))
      go_ret
      exact ⟨by simp [t0, t1], hBw.alloc hBw.size _⟩
    · cases t2 : regB a d2
      · go_wp2_with (first
          | (go_at_call 39; refine (HH.out _).mono ?_; rintro e w' ⟨rfl, rfl⟩)
          | (go_at_call 40; refine (HG.out _ _ _).mono ?_; rintro e w' ⟨rfl, rfl⟩)
          | (go_at_call 41; refine (HI.out _).mono ?_; rintro e w' ⟨rfl, rfl⟩))
        go_ret
        exact ⟨by simp [t0, t1, t2], hBw.alloc hBw.size _⟩
      · cases t3 : regB b d3
        · go_wp2_with (first
            | (go_at_call 39; refine (HH.out _).mono ?_; rintro e w' ⟨rfl, rfl⟩)
            | (go_at_call 40; refine (HG.out _ _ _).mono ?_; rintro e w' ⟨rfl, rfl⟩)
            | (go_at_call 41; refine (HI.out _).mono ?_; rintro e w' ⟨rfl, rfl⟩))
          go_ret
          exact ⟨by simp [t0, t1, t2, t3], hBw.alloc hBw.size _⟩
        · cases t4 : d4
          · go_wp2_with (first
              | (go_at_call 39; refine (HH.out _).mono ?_; rintro e w' ⟨rfl, rfl⟩)
              | (go_at_call 40; refine (HG.out _ _ _).mono ?_; rintro e w' ⟨rfl, rfl⟩)
              | (go_at_call 41; refine (HI.out _).mono ?_; rintro e w' ⟨rfl, rfl⟩))
            go_ret
            exact ⟨by simp [t0, t1, t2, t3, t4], hBw.alloc hBw.size _⟩
          · go_wp2_with (first
              | (go_at_call 39; refine (HH.out _).mono ?_; rintro e w' ⟨rfl, rfl⟩)
              | (go_at_call 40; refine (HG.out _ _ _).mono ?_; rintro e w' ⟨rfl, rfl⟩)
              | (go_at_call 41; refine (HI.out _).mono ?_; rintro e w' ⟨rfl, rfl⟩))
            go_ret
            exact ⟨by simp [t0, t1, t2, t3, t4], hBw.alloc hBw.size _⟩
end Go.Proofs
