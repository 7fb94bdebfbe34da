/- patinaref01.FormOf, Has: what they tell of each operation. -/
import Derived.Test.YtemngapfnkokiaaGreatDoorProg
import Derived.Test.YtemngapfnkokiaaGreatDoorMemTop
import Derived.Test.YtemngapfnkokiaaGreatDoorBufs
import Derived.RegionTactic
import Derived.Laws.Rows
namespace Go.Pat
open Go Go.RowKit
/-- the operations' forms: letter, opcode, funct3, the highest bits. -/
def formsT : List (Nat × Nat × Nat × Nat) := [(0, 0, 0, 0), (85, 55, 0, 0), (85, 23, 0, 0), (74, 111, 0, 0), (73, 103, 0, 0), (66, 99, 0, 0), (66, 99, 1, 0), (66, 99, 4, 0), (66, 99, 5, 0), (66, 99, 6, 0), (66, 99, 7, 0), (73, 3, 0, 0), (73, 3, 1, 0), (73, 3, 2, 0), (73, 3, 3, 0), (73, 3, 4, 0), (73, 3, 5, 0), (73, 3, 6, 0), (83, 35, 0, 0), (83, 35, 1, 0), (83, 35, 2, 0), (83, 35, 3, 0), (73, 19, 0, 0), (73, 19, 2, 0), (73, 19, 3, 0), (73, 19, 4, 0), (73, 19, 6, 0), (73, 19, 7, 0), (72, 19, 1, 0), (72, 19, 5, 0), (72, 19, 5, 32), (73, 27, 0, 0), (104, 27, 1, 0), (104, 27, 5, 0), (104, 27, 5, 32), (82, 51, 0, 0), (82, 51, 0, 32), (82, 51, 1, 0), (82, 51, 2, 0), (82, 51, 3, 0), (82, 51, 4, 0), (82, 51, 5, 0), (82, 51, 5, 32), (82, 51, 6, 0), (82, 51, 7, 0), (82, 59, 0, 0), (82, 59, 0, 32), (82, 59, 1, 0), (82, 59, 5, 0), (82, 59, 5, 32), (82, 51, 0, 1), (82, 51, 1, 1), (82, 51, 2, 1), (82, 51, 3, 1), (82, 51, 4, 1), (82, 51, 5, 1), (82, 51, 6, 1), (82, 51, 7, 1), (82, 59, 0, 1), (82, 59, 4, 1), (82, 59, 5, 1), (82, 59, 6, 1), (82, 59, 7, 1), (78, 15, 0, 0), (78, 115, 0, 0), (78, 1048691, 0, 0)]
def formR (op : Nat) : Nat × Nat × Nat × Nat := formsT.getD op (0, 0, 0, 0)
def formV (f : Nat × Nat × Nat × Nat) : Value := .agg #[.int .u8 (f.1 : Int), .int .u32 (f.2.1 : Int), .int .u32 (f.2.2.1 : Int), .int .u32 (f.2.2.2 : Int)]
/-- what an operation's form is. -/
def formZ (z : Int) : Nat × Nat × Nat × Nat := formR z.toNat
def hasD1 (l : Nat) : Bool := l == 85 || l == 74 || l == 73 || l == 72 || l == 104 || l == 82
def has11 (l : Nat) : Bool := l == 73 || l == 72 || l == 104 || l == 82 || l == 83 || l == 66
def has21 (l : Nat) : Bool := l == 82 || l == 83 || l == 66
end Go.Pat
namespace Go.Proofs
open Go Go.RowKit Go.Pat
theorem Tryz_sizeForm : (Tryz.prog.info? 126).map (·.size) = some 4 := by kernel_rfl
theorem form1 (w : World) (a : Obj) : Below w.heap.size w (w.alloc a) := (Below.refl _ _).alloc (Nat.le_refl _) _
theorem form2 (w : World) (a b : Obj) : Below w.heap.size w ((w.alloc a).alloc b) := (form1 w a).alloc (by rw [World.size_alloc]; omega) _
theorem form3 (w : World) (a b c : Obj) : Below w.heap.size w (((w.alloc a).alloc b).alloc c).drew := ((form2 w a b).alloc (by rw [World.size_alloc, World.size_alloc]; omega) _).drew
def FormTo (z : Int) (w : World) (e : Ending) (w' : World) : Prop := e = .returned (formV (formZ z)) ∧ Below w.heap.size w w'
end Go.Proofs

/- patinaref01.FormOf of the operations 1 to 38. -/
namespace Go.Proofs
open Go Go.RowKit Go.Pat
set_option maxRecDepth 20000 in
set_option maxHeartbeats 2000000 in
theorem FormOf_1 (w : World) : Calls Tryz.prog 72 #[.int .i64 1] w (FormTo 1 w) := by
  go_enter Tryz.func72, Tryz.ntmps72
  go_wp2
  refine bodyPost_ret (results_cell_row rfl _ _ w.heap.size 126 #[.int .u8 85, .int .u32 55, .int .u32 0, .int .u32 0] (0, 0) _ rfl (by first | exact heap_alloc_new w _ | exact obj_alloc (heap_alloc_new w _) | exact obj_alloc (obj_alloc (heap_alloc_new w _))) Tryz.underlying126 rfl Tryz_sizeForm) rfl ⟨rfl, by first | exact form1 w _ | exact form2 w _ _ | exact form3 w _ _ _⟩
set_option maxRecDepth 20000 in
set_option maxHeartbeats 2000000 in
theorem FormOf_2 (w : World) : Calls Tryz.prog 72 #[.int .i64 2] w (FormTo 2 w) := by
  go_enter Tryz.func72, Tryz.ntmps72
  go_wp2
  refine bodyPost_ret (results_cell_row rfl _ _ w.heap.size 126 #[.int .u8 85, .int .u32 23, .int .u32 0, .int .u32 0] (0, 0) _ rfl (by first | exact heap_alloc_new w _ | exact obj_alloc (heap_alloc_new w _) | exact obj_alloc (obj_alloc (heap_alloc_new w _))) Tryz.underlying126 rfl Tryz_sizeForm) rfl ⟨rfl, by first | exact form1 w _ | exact form2 w _ _ | exact form3 w _ _ _⟩
set_option maxRecDepth 20000 in
set_option maxHeartbeats 2000000 in
theorem FormOf_3 (w : World) : Calls Tryz.prog 72 #[.int .i64 3] w (FormTo 3 w) := by
  go_enter Tryz.func72, Tryz.ntmps72
  go_wp2
  refine bodyPost_ret (results_cell_row rfl _ _ w.heap.size 126 #[.int .u8 74, .int .u32 111, .int .u32 0, .int .u32 0] (0, 0) _ rfl (by first | exact heap_alloc_new w _ | exact obj_alloc (heap_alloc_new w _) | exact obj_alloc (obj_alloc (heap_alloc_new w _))) Tryz.underlying126 rfl Tryz_sizeForm) rfl ⟨rfl, by first | exact form1 w _ | exact form2 w _ _ | exact form3 w _ _ _⟩
set_option maxRecDepth 20000 in
set_option maxHeartbeats 2000000 in
theorem FormOf_4 (w : World) : Calls Tryz.prog 72 #[.int .i64 4] w (FormTo 4 w) := by
  go_enter Tryz.func72, Tryz.ntmps72
  go_wp2
  refine bodyPost_ret (results_cell_row rfl _ _ w.heap.size 126 #[.int .u8 73, .int .u32 103, .int .u32 0, .int .u32 0] (0, 0) _ rfl (by first | exact heap_alloc_new w _ | exact obj_alloc (heap_alloc_new w _) | exact obj_alloc (obj_alloc (heap_alloc_new w _))) Tryz.underlying126 rfl Tryz_sizeForm) rfl ⟨rfl, by first | exact form1 w _ | exact form2 w _ _ | exact form3 w _ _ _⟩
set_option maxRecDepth 20000 in
set_option maxHeartbeats 2000000 in
theorem FormOf_5 (w : World) : Calls Tryz.prog 72 #[.int .i64 5] w (FormTo 5 w) := by
  go_enter Tryz.func72, Tryz.ntmps72
  go_wp2
  refine bodyPost_ret (results_cell_row rfl _ _ w.heap.size 126 #[.int .u8 66, .int .u32 99, .int .u32 0, .int .u32 0] (0, 0) _ rfl (by first | exact heap_alloc_new w _ | exact obj_alloc (heap_alloc_new w _) | exact obj_alloc (obj_alloc (heap_alloc_new w _))) Tryz.underlying126 rfl Tryz_sizeForm) rfl ⟨rfl, by first | exact form1 w _ | exact form2 w _ _ | exact form3 w _ _ _⟩
set_option maxRecDepth 20000 in
set_option maxHeartbeats 2000000 in
theorem FormOf_6 (w : World) : Calls Tryz.prog 72 #[.int .i64 6] w (FormTo 6 w) := by
  go_enter Tryz.func72, Tryz.ntmps72
  go_wp2
  refine bodyPost_ret (results_cell_row rfl _ _ w.heap.size 126 #[.int .u8 66, .int .u32 99, .int .u32 1, .int .u32 0] (0, 0) _ rfl (by first | exact heap_alloc_new w _ | exact obj_alloc (heap_alloc_new w _) | exact obj_alloc (obj_alloc (heap_alloc_new w _))) Tryz.underlying126 rfl Tryz_sizeForm) rfl ⟨rfl, by first | exact form1 w _ | exact form2 w _ _ | exact form3 w _ _ _⟩
set_option maxRecDepth 20000 in
set_option maxHeartbeats 2000000 in
theorem FormOf_7 (w : World) : Calls Tryz.prog 72 #[.int .i64 7] w (FormTo 7 w) := by
  go_enter Tryz.func72, Tryz.ntmps72
  go_wp2
  refine bodyPost_ret (results_cell_row rfl _ _ w.heap.size 126 #[.int .u8 66, .int .u32 99, .int .u32 4, .int .u32 0] (0, 0) _ rfl (by first | exact heap_alloc_new w _ | exact obj_alloc (heap_alloc_new w _) | exact obj_alloc (obj_alloc (heap_alloc_new w _))) Tryz.underlying126 rfl Tryz_sizeForm) rfl ⟨rfl, by first | exact form1 w _ | exact form2 w _ _ | exact form3 w _ _ _⟩
set_option maxRecDepth 20000 in
set_option maxHeartbeats 2000000 in
theorem FormOf_8 (w : World) : Calls Tryz.prog 72 #[.int .i64 8] w (FormTo 8 w) := by
  go_enter Tryz.func72, Tryz.ntmps72
  go_wp2
  refine bodyPost_ret (results_cell_row rfl _ _ w.heap.size 126 #[.int .u8 66, .int .u32 99, .int .u32 5, .int .u32 0] (0, 0) _ rfl (by first | exact heap_alloc_new w _ | exact obj_alloc (heap_alloc_new w _) | exact obj_alloc (obj_alloc (heap_alloc_new w _))) Tryz.underlying126 rfl Tryz_sizeForm) rfl ⟨rfl, by first | exact form1 w _ | exact form2 w _ _ | exact form3 w _ _ _⟩
set_option maxRecDepth 20000 in
set_option maxHeartbeats 2000000 in
theorem FormOf_9 (w : World) : Calls Tryz.prog 72 #[.int .i64 9] w (FormTo 9 w) := by
  go_enter Tryz.func72, Tryz.ntmps72
  go_wp2
  refine bodyPost_ret (results_cell_row rfl _ _ w.heap.size 126 #[.int .u8 66, .int .u32 99, .int .u32 6, .int .u32 0] (0, 0) _ rfl (by first | exact heap_alloc_new w _ | exact obj_alloc (heap_alloc_new w _) | exact obj_alloc (obj_alloc (heap_alloc_new w _))) Tryz.underlying126 rfl Tryz_sizeForm) rfl ⟨rfl, by first | exact form1 w _ | exact form2 w _ _ | exact form3 w _ _ _⟩
set_option maxRecDepth 20000 in
set_option maxHeartbeats 2000000 in
theorem FormOf_10 (w : World) : Calls Tryz.prog 72 #[.int .i64 10] w (FormTo 10 w) := by
  go_enter Tryz.func72, Tryz.ntmps72
  go_wp2
  refine bodyPost_ret (results_cell_row rfl _ _ w.heap.size 126 #[.int .u8 66, .int .u32 99, .int .u32 7, .int .u32 0] (0, 0) _ rfl (by first | exact heap_alloc_new w _ | exact obj_alloc (heap_alloc_new w _) | exact obj_alloc (obj_alloc (heap_alloc_new w _))) Tryz.underlying126 rfl Tryz_sizeForm) rfl ⟨rfl, by first | exact form1 w _ | exact form2 w _ _ | exact form3 w _ _ _⟩
set_option maxRecDepth 20000 in
set_option maxHeartbeats 2000000 in
theorem FormOf_11 (w : World) : Calls Tryz.prog 72 #[.int .i64 11] w (FormTo 11 w) := by
  go_enter Tryz.func72, Tryz.ntmps72
  go_wp2
  refine bodyPost_ret (results_cell_row rfl _ _ w.heap.size 126 #[.int .u8 73, .int .u32 3, .int .u32 0, .int .u32 0] (0, 0) _ rfl (by first | exact heap_alloc_new w _ | exact obj_alloc (heap_alloc_new w _) | exact obj_alloc (obj_alloc (heap_alloc_new w _))) Tryz.underlying126 rfl Tryz_sizeForm) rfl ⟨rfl, by first | exact form1 w _ | exact form2 w _ _ | exact form3 w _ _ _⟩
set_option maxRecDepth 20000 in
set_option maxHeartbeats 2000000 in
theorem FormOf_12 (w : World) : Calls Tryz.prog 72 #[.int .i64 12] w (FormTo 12 w) := by
  go_enter Tryz.func72, Tryz.ntmps72
  go_wp2
  refine bodyPost_ret (results_cell_row rfl _ _ w.heap.size 126 #[.int .u8 73, .int .u32 3, .int .u32 1, .int .u32 0] (0, 0) _ rfl (by first | exact heap_alloc_new w _ | exact obj_alloc (heap_alloc_new w _) | exact obj_alloc (obj_alloc (heap_alloc_new w _))) Tryz.underlying126 rfl Tryz_sizeForm) rfl ⟨rfl, by first | exact form1 w _ | exact form2 w _ _ | exact form3 w _ _ _⟩
set_option maxRecDepth 20000 in
set_option maxHeartbeats 2000000 in
theorem FormOf_13 (w : World) : Calls Tryz.prog 72 #[.int .i64 13] w (FormTo 13 w) := by
  go_enter Tryz.func72, Tryz.ntmps72
  go_wp2
  refine bodyPost_ret (results_cell_row rfl _ _ w.heap.size 126 #[.int .u8 73, .int .u32 3, .int .u32 2, .int .u32 0] (0, 0) _ rfl (by first | exact heap_alloc_new w _ | exact obj_alloc (heap_alloc_new w _) | exact obj_alloc (obj_alloc (heap_alloc_new w _))) Tryz.underlying126 rfl Tryz_sizeForm) rfl ⟨rfl, by first | exact form1 w _ | exact form2 w _ _ | exact form3 w _ _ _⟩
set_option maxRecDepth 20000 in
set_option maxHeartbeats 2000000 in
theorem FormOf_14 (w : World) : Calls Tryz.prog 72 #[.int .i64 14] w (FormTo 14 w) := by
  go_enter Tryz.func72, Tryz.ntmps72
  go_wp2
  refine bodyPost_ret (results_cell_row rfl _ _ w.heap.size 126 #[.int .u8 73, .int .u32 3, .int .u32 3, .int .u32 0] (0, 0) _ rfl (by first | exact heap_alloc_new w _ | exact obj_alloc (heap_alloc_new w _) | exact obj_alloc (obj_alloc (heap_alloc_new w _))) Tryz.underlying126 rfl Tryz_sizeForm) rfl ⟨rfl, by first | exact form1 w _ | exact form2 w _ _ | exact form3 w _ _ _⟩
set_option maxRecDepth 20000 in
set_option maxHeartbeats 2000000 in
theorem FormOf_15 (w : World) : Calls Tryz.prog 72 #[.int .i64 15] w (FormTo 15 w) := by
  go_enter Tryz.func72, Tryz.ntmps72
  go_wp2
  refine bodyPost_ret (results_cell_row rfl _ _ w.heap.size 126 #[.int .u8 73, .int .u32 3, .int .u32 4, .int .u32 0] (0, 0) _ rfl (by first | exact heap_alloc_new w _ | exact obj_alloc (heap_alloc_new w _) | exact obj_alloc (obj_alloc (heap_alloc_new w _))) Tryz.underlying126 rfl Tryz_sizeForm) rfl ⟨rfl, by first | exact form1 w _ | exact form2 w _ _ | exact form3 w _ _ _⟩
set_option maxRecDepth 20000 in
set_option maxHeartbeats 2000000 in
theorem FormOf_16 (w : World) : Calls Tryz.prog 72 #[.int .i64 16] w (FormTo 16 w) := by
  go_enter Tryz.func72, Tryz.ntmps72
  go_wp2
  refine bodyPost_ret (results_cell_row rfl _ _ w.heap.size 126 #[.int .u8 73, .int .u32 3, .int .u32 5, .int .u32 0] (0, 0) _ rfl (by first | exact heap_alloc_new w _ | exact obj_alloc (heap_alloc_new w _) | exact obj_alloc (obj_alloc (heap_alloc_new w _))) Tryz.underlying126 rfl Tryz_sizeForm) rfl ⟨rfl, by first | exact form1 w _ | exact form2 w _ _ | exact form3 w _ _ _⟩
set_option maxRecDepth 20000 in
set_option maxHeartbeats 2000000 in
theorem FormOf_17 (w : World) : Calls Tryz.prog 72 #[.int .i64 17] w (FormTo 17 w) := by
  go_enter Tryz.func72, Tryz.ntmps72
  go_wp2
  refine bodyPost_ret (results_cell_row rfl _ _ w.heap.size 126 #[.int .u8 73, .int .u32 3, .int .u32 6, .int .u32 0] (0, 0) _ rfl (by first | exact heap_alloc_new w _ | exact obj_alloc (heap_alloc_new w _) | exact obj_alloc (obj_alloc (heap_alloc_new w _))) Tryz.underlying126 rfl Tryz_sizeForm) rfl ⟨rfl, by first | exact form1 w _ | exact form2 w _ _ | exact form3 w _ _ _⟩
set_option maxRecDepth 20000 in
set_option maxHeartbeats 2000000 in
theorem FormOf_18 (w : World) : Calls Tryz.prog 72 #[.int .i64 18] w (FormTo 18 w) := by
  go_enter Tryz.func72, Tryz.ntmps72
  go_wp2
  refine bodyPost_ret (results_cell_row rfl _ _ w.heap.size 126 #[.int .u8 83, .int .u32 35, .int .u32 0, .int .u32 0] (0, 0) _ rfl (by first | exact heap_alloc_new w _ | exact obj_alloc (heap_alloc_new w _) | exact obj_alloc (obj_alloc (heap_alloc_new w _))) Tryz.underlying126 rfl Tryz_sizeForm) rfl ⟨rfl, by first | exact form1 w _ | exact form2 w _ _ | exact form3 w _ _ _⟩
set_option maxRecDepth 20000 in
set_option maxHeartbeats 2000000 in
theorem FormOf_19 (w : World) : Calls Tryz.prog 72 #[.int .i64 19] w (FormTo 19 w) := by
  go_enter Tryz.func72, Tryz.ntmps72
  go_wp2
  refine bodyPost_ret (results_cell_row rfl _ _ w.heap.size 126 #[.int .u8 83, .int .u32 35, .int .u32 1, .int .u32 0] (0, 0) _ rfl (by first | exact heap_alloc_new w _ | exact obj_alloc (heap_alloc_new w _) | exact obj_alloc (obj_alloc (heap_alloc_new w _))) Tryz.underlying126 rfl Tryz_sizeForm) rfl ⟨rfl, by first | exact form1 w _ | exact form2 w _ _ | exact form3 w _ _ _⟩
set_option maxRecDepth 20000 in
set_option maxHeartbeats 2000000 in
theorem FormOf_20 (w : World) : Calls Tryz.prog 72 #[.int .i64 20] w (FormTo 20 w) := by
  go_enter Tryz.func72, Tryz.ntmps72
  go_wp2
  refine bodyPost_ret (results_cell_row rfl _ _ w.heap.size 126 #[.int .u8 83, .int .u32 35, .int .u32 2, .int .u32 0] (0, 0) _ rfl (by first | exact heap_alloc_new w _ | exact obj_alloc (heap_alloc_new w _) | exact obj_alloc (obj_alloc (heap_alloc_new w _))) Tryz.underlying126 rfl Tryz_sizeForm) rfl ⟨rfl, by first | exact form1 w _ | exact form2 w _ _ | exact form3 w _ _ _⟩
set_option maxRecDepth 20000 in
set_option maxHeartbeats 2000000 in
theorem FormOf_21 (w : World) : Calls Tryz.prog 72 #[.int .i64 21] w (FormTo 21 w) := by
  go_enter Tryz.func72, Tryz.ntmps72
  go_wp2
  refine bodyPost_ret (results_cell_row rfl _ _ w.heap.size 126 #[.int .u8 83, .int .u32 35, .int .u32 3, .int .u32 0] (0, 0) _ rfl (by first | exact heap_alloc_new w _ | exact obj_alloc (heap_alloc_new w _) | exact obj_alloc (obj_alloc (heap_alloc_new w _))) Tryz.underlying126 rfl Tryz_sizeForm) rfl ⟨rfl, by first | exact form1 w _ | exact form2 w _ _ | exact form3 w _ _ _⟩
set_option maxRecDepth 20000 in
set_option maxHeartbeats 2000000 in
theorem FormOf_22 (w : World) : Calls Tryz.prog 72 #[.int .i64 22] w (FormTo 22 w) := by
  go_enter Tryz.func72, Tryz.ntmps72
  go_wp2
  refine bodyPost_ret (results_cell_row rfl _ _ w.heap.size 126 #[.int .u8 73, .int .u32 19, .int .u32 0, .int .u32 0] (0, 0) _ rfl (by first | exact heap_alloc_new w _ | exact obj_alloc (heap_alloc_new w _) | exact obj_alloc (obj_alloc (heap_alloc_new w _))) Tryz.underlying126 rfl Tryz_sizeForm) rfl ⟨rfl, by first | exact form1 w _ | exact form2 w _ _ | exact form3 w _ _ _⟩
set_option maxRecDepth 20000 in
set_option maxHeartbeats 2000000 in
theorem FormOf_23 (w : World) : Calls Tryz.prog 72 #[.int .i64 23] w (FormTo 23 w) := by
  go_enter Tryz.func72, Tryz.ntmps72
  go_wp2
  refine bodyPost_ret (results_cell_row rfl _ _ w.heap.size 126 #[.int .u8 73, .int .u32 19, .int .u32 2, .int .u32 0] (0, 0) _ rfl (by first | exact heap_alloc_new w _ | exact obj_alloc (heap_alloc_new w _) | exact obj_alloc (obj_alloc (heap_alloc_new w _))) Tryz.underlying126 rfl Tryz_sizeForm) rfl ⟨rfl, by first | exact form1 w _ | exact form2 w _ _ | exact form3 w _ _ _⟩
set_option maxRecDepth 20000 in
set_option maxHeartbeats 2000000 in
theorem FormOf_24 (w : World) : Calls Tryz.prog 72 #[.int .i64 24] w (FormTo 24 w) := by
  go_enter Tryz.func72, Tryz.ntmps72
  go_wp2
  refine bodyPost_ret (results_cell_row rfl _ _ w.heap.size 126 #[.int .u8 73, .int .u32 19, .int .u32 3, .int .u32 0] (0, 0) _ rfl (by first | exact heap_alloc_new w _ | exact obj_alloc (heap_alloc_new w _) | exact obj_alloc (obj_alloc (heap_alloc_new w _))) Tryz.underlying126 rfl Tryz_sizeForm) rfl ⟨rfl, by first | exact form1 w _ | exact form2 w _ _ | exact form3 w _ _ _⟩
set_option maxRecDepth 20000 in
set_option maxHeartbeats 2000000 in
theorem FormOf_25 (w : World) : Calls Tryz.prog 72 #[.int .i64 25] w (FormTo 25 w) := by
  go_enter Tryz.func72, Tryz.ntmps72
  go_wp2
  refine bodyPost_ret (results_cell_row rfl _ _ w.heap.size 126 #[.int .u8 73, .int .u32 19, .int .u32 4, .int .u32 0] (0, 0) _ rfl (by first | exact heap_alloc_new w _ | exact obj_alloc (heap_alloc_new w _) | exact obj_alloc (obj_alloc (heap_alloc_new w _))) Tryz.underlying126 rfl Tryz_sizeForm) rfl ⟨rfl, by first | exact form1 w _ | exact form2 w _ _ | exact form3 w _ _ _⟩
set_option maxRecDepth 20000 in
set_option maxHeartbeats 2000000 in
theorem FormOf_26 (w : World) : Calls Tryz.prog 72 #[.int .i64 26] w (FormTo 26 w) := by
  go_enter Tryz.func72, Tryz.ntmps72
  go_wp2
  refine bodyPost_ret (results_cell_row rfl _ _ w.heap.size 126 #[.int .u8 73, .int .u32 19, .int .u32 6, .int .u32 0] (0, 0) _ rfl (by first | exact heap_alloc_new w _ | exact obj_alloc (heap_alloc_new w _) | exact obj_alloc (obj_alloc (heap_alloc_new w _))) Tryz.underlying126 rfl Tryz_sizeForm) rfl ⟨rfl, by first | exact form1 w _ | exact form2 w _ _ | exact form3 w _ _ _⟩
set_option maxRecDepth 20000 in
set_option maxHeartbeats 2000000 in
theorem FormOf_27 (w : World) : Calls Tryz.prog 72 #[.int .i64 27] w (FormTo 27 w) := by
  go_enter Tryz.func72, Tryz.ntmps72
  go_wp2
  refine bodyPost_ret (results_cell_row rfl _ _ w.heap.size 126 #[.int .u8 73, .int .u32 19, .int .u32 7, .int .u32 0] (0, 0) _ rfl (by first | exact heap_alloc_new w _ | exact obj_alloc (heap_alloc_new w _) | exact obj_alloc (obj_alloc (heap_alloc_new w _))) Tryz.underlying126 rfl Tryz_sizeForm) rfl ⟨rfl, by first | exact form1 w _ | exact form2 w _ _ | exact form3 w _ _ _⟩
set_option maxRecDepth 20000 in
set_option maxHeartbeats 2000000 in
theorem FormOf_28 (w : World) : Calls Tryz.prog 72 #[.int .i64 28] w (FormTo 28 w) := by
  go_enter Tryz.func72, Tryz.ntmps72
  go_wp2_with fail
  all_goals go_region
  all_goals go_wp2
  all_goals refine bodyPost_ret (results_cell_row rfl _ _ w.heap.size 126 #[.int .u8 72, .int .u32 19, .int .u32 1, .int .u32 0] (0, 0) _ rfl (by first | exact heap_alloc_new w _ | exact obj_alloc (heap_alloc_new w _) | exact obj_alloc (obj_alloc (heap_alloc_new w _))) Tryz.underlying126 rfl Tryz_sizeForm) rfl ⟨rfl, by first | exact form1 w _ | exact form2 w _ _ | exact form3 w _ _ _⟩
set_option maxRecDepth 20000 in
set_option maxHeartbeats 2000000 in
theorem FormOf_29 (w : World) : Calls Tryz.prog 72 #[.int .i64 29] w (FormTo 29 w) := by
  go_enter Tryz.func72, Tryz.ntmps72
  go_wp2_with fail
  all_goals go_region
  all_goals go_wp2
  all_goals refine bodyPost_ret (results_cell_row rfl _ _ w.heap.size 126 #[.int .u8 72, .int .u32 19, .int .u32 5, .int .u32 0] (0, 0) _ rfl (by first | exact heap_alloc_new w _ | exact obj_alloc (heap_alloc_new w _) | exact obj_alloc (obj_alloc (heap_alloc_new w _))) Tryz.underlying126 rfl Tryz_sizeForm) rfl ⟨rfl, by first | exact form1 w _ | exact form2 w _ _ | exact form3 w _ _ _⟩
set_option maxRecDepth 20000 in
set_option maxHeartbeats 2000000 in
theorem FormOf_30 (w : World) : Calls Tryz.prog 72 #[.int .i64 30] w (FormTo 30 w) := by
  go_enter Tryz.func72, Tryz.ntmps72
  go_wp2_with fail
  all_goals go_region
  all_goals go_wp2
  all_goals refine bodyPost_ret (results_cell_row rfl _ _ w.heap.size 126 #[.int .u8 72, .int .u32 19, .int .u32 5, .int .u32 32] (0, 0) _ rfl (by first | exact heap_alloc_new w _ | exact obj_alloc (heap_alloc_new w _) | exact obj_alloc (obj_alloc (heap_alloc_new w _))) Tryz.underlying126 rfl Tryz_sizeForm) rfl ⟨rfl, by first | exact form1 w _ | exact form2 w _ _ | exact form3 w _ _ _⟩
set_option maxRecDepth 20000 in
set_option maxHeartbeats 2000000 in
theorem FormOf_31 (w : World) : Calls Tryz.prog 72 #[.int .i64 31] w (FormTo 31 w) := by
  go_enter Tryz.func72, Tryz.ntmps72
  go_wp2
  refine bodyPost_ret (results_cell_row rfl _ _ w.heap.size 126 #[.int .u8 73, .int .u32 27, .int .u32 0, .int .u32 0] (0, 0) _ rfl (by first | exact heap_alloc_new w _ | exact obj_alloc (heap_alloc_new w _) | exact obj_alloc (obj_alloc (heap_alloc_new w _))) Tryz.underlying126 rfl Tryz_sizeForm) rfl ⟨rfl, by first | exact form1 w _ | exact form2 w _ _ | exact form3 w _ _ _⟩
set_option maxRecDepth 20000 in
set_option maxHeartbeats 2000000 in
theorem FormOf_32 (w : World) : Calls Tryz.prog 72 #[.int .i64 32] w (FormTo 32 w) := by
  go_enter Tryz.func72, Tryz.ntmps72
  go_wp2_with fail
  all_goals go_region
  all_goals go_wp2
  all_goals refine bodyPost_ret (results_cell_row rfl _ _ w.heap.size 126 #[.int .u8 104, .int .u32 27, .int .u32 1, .int .u32 0] (0, 0) _ rfl (by first | exact heap_alloc_new w _ | exact obj_alloc (heap_alloc_new w _) | exact obj_alloc (obj_alloc (heap_alloc_new w _))) Tryz.underlying126 rfl Tryz_sizeForm) rfl ⟨rfl, by first | exact form1 w _ | exact form2 w _ _ | exact form3 w _ _ _⟩
set_option maxRecDepth 20000 in
set_option maxHeartbeats 2000000 in
theorem FormOf_33 (w : World) : Calls Tryz.prog 72 #[.int .i64 33] w (FormTo 33 w) := by
  go_enter Tryz.func72, Tryz.ntmps72
  go_wp2_with fail
  all_goals go_region
  all_goals go_wp2
  all_goals refine bodyPost_ret (results_cell_row rfl _ _ w.heap.size 126 #[.int .u8 104, .int .u32 27, .int .u32 5, .int .u32 0] (0, 0) _ rfl (by first | exact heap_alloc_new w _ | exact obj_alloc (heap_alloc_new w _) | exact obj_alloc (obj_alloc (heap_alloc_new w _))) Tryz.underlying126 rfl Tryz_sizeForm) rfl ⟨rfl, by first | exact form1 w _ | exact form2 w _ _ | exact form3 w _ _ _⟩
set_option maxRecDepth 20000 in
set_option maxHeartbeats 2000000 in
theorem FormOf_34 (w : World) : Calls Tryz.prog 72 #[.int .i64 34] w (FormTo 34 w) := by
  go_enter Tryz.func72, Tryz.ntmps72
  go_wp2_with fail
  all_goals go_region
  all_goals go_wp2
  all_goals refine bodyPost_ret (results_cell_row rfl _ _ w.heap.size 126 #[.int .u8 104, .int .u32 27, .int .u32 5, .int .u32 32] (0, 0) _ rfl (by first | exact heap_alloc_new w _ | exact obj_alloc (heap_alloc_new w _) | exact obj_alloc (obj_alloc (heap_alloc_new w _))) Tryz.underlying126 rfl Tryz_sizeForm) rfl ⟨rfl, by first | exact form1 w _ | exact form2 w _ _ | exact form3 w _ _ _⟩
set_option maxRecDepth 20000 in
set_option maxHeartbeats 2000000 in
theorem FormOf_35 (w : World) : Calls Tryz.prog 72 #[.int .i64 35] w (FormTo 35 w) := by
  go_enter Tryz.func72, Tryz.ntmps72
  go_wp2_with fail
  all_goals go_region
  all_goals go_wp2
  all_goals refine bodyPost_ret (results_cell_row rfl _ _ w.heap.size 126 #[.int .u8 82, .int .u32 51, .int .u32 0, .int .u32 0] (0, 0) _ rfl (by first | exact heap_alloc_new w _ | exact obj_alloc (heap_alloc_new w _) | exact obj_alloc (obj_alloc (heap_alloc_new w _))) Tryz.underlying126 rfl Tryz_sizeForm) rfl ⟨rfl, by first | exact form1 w _ | exact form2 w _ _ | exact form3 w _ _ _⟩
set_option maxRecDepth 20000 in
set_option maxHeartbeats 2000000 in
theorem FormOf_36 (w : World) : Calls Tryz.prog 72 #[.int .i64 36] w (FormTo 36 w) := by
  go_enter Tryz.func72, Tryz.ntmps72
  go_wp2_with fail
  all_goals go_region
  all_goals go_wp2
  all_goals refine bodyPost_ret (results_cell_row rfl _ _ w.heap.size 126 #[.int .u8 82, .int .u32 51, .int .u32 0, .int .u32 32] (0, 0) _ rfl (by first | exact heap_alloc_new w _ | exact obj_alloc (heap_alloc_new w _) | exact obj_alloc (obj_alloc (heap_alloc_new w _))) Tryz.underlying126 rfl Tryz_sizeForm) rfl ⟨rfl, by first | exact form1 w _ | exact form2 w _ _ | exact form3 w _ _ _⟩
set_option maxRecDepth 20000 in
set_option maxHeartbeats 2000000 in
theorem FormOf_37 (w : World) : Calls Tryz.prog 72 #[.int .i64 37] w (FormTo 37 w) := by
  go_enter Tryz.func72, Tryz.ntmps72
  go_wp2_with fail
  all_goals go_region
  all_goals go_wp2
  all_goals refine bodyPost_ret (results_cell_row rfl _ _ w.heap.size 126 #[.int .u8 82, .int .u32 51, .int .u32 1, .int .u32 0] (0, 0) _ rfl (by first | exact heap_alloc_new w _ | exact obj_alloc (heap_alloc_new w _) | exact obj_alloc (obj_alloc (heap_alloc_new w _))) Tryz.underlying126 rfl Tryz_sizeForm) rfl ⟨rfl, by first | exact form1 w _ | exact form2 w _ _ | exact form3 w _ _ _⟩
set_option maxRecDepth 20000 in
set_option maxHeartbeats 2000000 in
theorem FormOf_38 (w : World) : Calls Tryz.prog 72 #[.int .i64 38] w (FormTo 38 w) := by
  go_enter Tryz.func72, Tryz.ntmps72
  go_wp2_with fail
  all_goals go_region
  all_goals go_wp2
  all_goals refine bodyPost_ret (results_cell_row rfl _ _ w.heap.size 126 #[.int .u8 82, .int .u32 51, .int .u32 2, .int .u32 0] (0, 0) _ rfl (by first | exact heap_alloc_new w _ | exact obj_alloc (heap_alloc_new w _) | exact obj_alloc (obj_alloc (heap_alloc_new w _))) Tryz.underlying126 rfl Tryz_sizeForm) rfl ⟨rfl, by first | exact form1 w _ | exact form2 w _ _ | exact form3 w _ _ _⟩
end Go.Proofs
