/- patinaref01.FormOf of the operations 39 to 65. -/
import Derived.Test.YtemngapfnkokiaaGreatDoorFormPA
import Derived.BigQuiet
import Derived.Deep.QuietTactic
namespace Go.Proofs
open Go Go.RowKit Go.Pat
set_option maxRecDepth 20000 in
set_option maxHeartbeats 2000000 in
theorem FormOf_39 (w : World) : Calls Tryz.prog 72 #[.int .i64 39] w (FormTo 39 w) := by
  go_enter Tryz.func72, Tryz.ntmps72
  go_wp2_with fail
  all_goals go_region
  all_goals go_wp2
  all_goals refine bodyPost_ret (results_cell_row rfl _ _ w.heap.size 126 #[.int .u8 82, .int .u32 51, .int .u32 3, .int .u32 0] (0, 0) _ rfl (by first | exact heap_alloc_new w _ | exact obj_alloc (heap_alloc_new w _) | exact obj_alloc (obj_alloc (heap_alloc_new w _))) Tryz.underlying126 rfl Tryz_sizeForm) rfl ⟨rfl, by first | exact form1 w _ | exact form2 w _ _ | exact form3 w _ _ _⟩
set_option maxRecDepth 20000 in
set_option maxHeartbeats 2000000 in
theorem FormOf_40 (w : World) : Calls Tryz.prog 72 #[.int .i64 40] w (FormTo 40 w) := by
  go_enter Tryz.func72, Tryz.ntmps72
  go_wp2_with fail
  all_goals go_region
  all_goals go_wp2
  all_goals refine bodyPost_ret (results_cell_row rfl _ _ w.heap.size 126 #[.int .u8 82, .int .u32 51, .int .u32 4, .int .u32 0] (0, 0) _ rfl (by first | exact heap_alloc_new w _ | exact obj_alloc (heap_alloc_new w _) | exact obj_alloc (obj_alloc (heap_alloc_new w _))) Tryz.underlying126 rfl Tryz_sizeForm) rfl ⟨rfl, by first | exact form1 w _ | exact form2 w _ _ | exact form3 w _ _ _⟩
set_option maxRecDepth 20000 in
set_option maxHeartbeats 2000000 in
theorem FormOf_41 (w : World) : Calls Tryz.prog 72 #[.int .i64 41] w (FormTo 41 w) := by
  go_enter Tryz.func72, Tryz.ntmps72
  go_wp2_with fail
  all_goals go_region
  all_goals go_wp2
  all_goals refine bodyPost_ret (results_cell_row rfl _ _ w.heap.size 126 #[.int .u8 82, .int .u32 51, .int .u32 5, .int .u32 0] (0, 0) _ rfl (by first | exact heap_alloc_new w _ | exact obj_alloc (heap_alloc_new w _) | exact obj_alloc (obj_alloc (heap_alloc_new w _))) Tryz.underlying126 rfl Tryz_sizeForm) rfl ⟨rfl, by first | exact form1 w _ | exact form2 w _ _ | exact form3 w _ _ _⟩
set_option maxRecDepth 20000 in
set_option maxHeartbeats 2000000 in
theorem FormOf_42 (w : World) : Calls Tryz.prog 72 #[.int .i64 42] w (FormTo 42 w) := by
  go_enter Tryz.func72, Tryz.ntmps72
  go_wp2_with fail
  all_goals go_region
  all_goals go_wp2
  all_goals refine bodyPost_ret (results_cell_row rfl _ _ w.heap.size 126 #[.int .u8 82, .int .u32 51, .int .u32 5, .int .u32 32] (0, 0) _ rfl (by first | exact heap_alloc_new w _ | exact obj_alloc (heap_alloc_new w _) | exact obj_alloc (obj_alloc (heap_alloc_new w _))) Tryz.underlying126 rfl Tryz_sizeForm) rfl ⟨rfl, by first | exact form1 w _ | exact form2 w _ _ | exact form3 w _ _ _⟩
set_option maxRecDepth 20000 in
set_option maxHeartbeats 2000000 in
theorem FormOf_43 (w : World) : Calls Tryz.prog 72 #[.int .i64 43] w (FormTo 43 w) := by
  go_enter Tryz.func72, Tryz.ntmps72
  go_wp2_with fail
  all_goals go_region
  all_goals go_wp2
  all_goals refine bodyPost_ret (results_cell_row rfl _ _ w.heap.size 126 #[.int .u8 82, .int .u32 51, .int .u32 6, .int .u32 0] (0, 0) _ rfl (by first | exact heap_alloc_new w _ | exact obj_alloc (heap_alloc_new w _) | exact obj_alloc (obj_alloc (heap_alloc_new w _))) Tryz.underlying126 rfl Tryz_sizeForm) rfl ⟨rfl, by first | exact form1 w _ | exact form2 w _ _ | exact form3 w _ _ _⟩
set_option maxRecDepth 20000 in
set_option maxHeartbeats 2000000 in
theorem FormOf_44 (w : World) : Calls Tryz.prog 72 #[.int .i64 44] w (FormTo 44 w) := by
  go_enter Tryz.func72, Tryz.ntmps72
  go_wp2_with fail
  all_goals go_region
  all_goals go_wp2
  all_goals refine bodyPost_ret (results_cell_row rfl _ _ w.heap.size 126 #[.int .u8 82, .int .u32 51, .int .u32 7, .int .u32 0] (0, 0) _ rfl (by first | exact heap_alloc_new w _ | exact obj_alloc (heap_alloc_new w _) | exact obj_alloc (obj_alloc (heap_alloc_new w _))) Tryz.underlying126 rfl Tryz_sizeForm) rfl ⟨rfl, by first | exact form1 w _ | exact form2 w _ _ | exact form3 w _ _ _⟩
set_option maxRecDepth 20000 in
set_option maxHeartbeats 2000000 in
theorem FormOf_45 (w : World) : Calls Tryz.prog 72 #[.int .i64 45] w (FormTo 45 w) := by
  go_enter Tryz.func72, Tryz.ntmps72
  go_wp2_with fail
  all_goals go_region
  all_goals go_wp2
  all_goals refine bodyPost_ret (results_cell_row rfl _ _ w.heap.size 126 #[.int .u8 82, .int .u32 59, .int .u32 0, .int .u32 0] (0, 0) _ rfl (by first | exact heap_alloc_new w _ | exact obj_alloc (heap_alloc_new w _) | exact obj_alloc (obj_alloc (heap_alloc_new w _))) Tryz.underlying126 rfl Tryz_sizeForm) rfl ⟨rfl, by first | exact form1 w _ | exact form2 w _ _ | exact form3 w _ _ _⟩
set_option maxRecDepth 20000 in
set_option maxHeartbeats 2000000 in
theorem FormOf_46 (w : World) : Calls Tryz.prog 72 #[.int .i64 46] w (FormTo 46 w) := by
  go_enter Tryz.func72, Tryz.ntmps72
  go_wp2_with fail
  all_goals go_region
  all_goals go_wp2
  all_goals refine bodyPost_ret (results_cell_row rfl _ _ w.heap.size 126 #[.int .u8 82, .int .u32 59, .int .u32 0, .int .u32 32] (0, 0) _ rfl (by first | exact heap_alloc_new w _ | exact obj_alloc (heap_alloc_new w _) | exact obj_alloc (obj_alloc (heap_alloc_new w _))) Tryz.underlying126 rfl Tryz_sizeForm) rfl ⟨rfl, by first | exact form1 w _ | exact form2 w _ _ | exact form3 w _ _ _⟩
set_option maxRecDepth 20000 in
set_option maxHeartbeats 2000000 in
theorem FormOf_47 (w : World) : Calls Tryz.prog 72 #[.int .i64 47] w (FormTo 47 w) := by
  go_enter Tryz.func72, Tryz.ntmps72
  go_wp2_with fail
  all_goals go_region
  all_goals go_wp2
  all_goals refine bodyPost_ret (results_cell_row rfl _ _ w.heap.size 126 #[.int .u8 82, .int .u32 59, .int .u32 1, .int .u32 0] (0, 0) _ rfl (by first | exact heap_alloc_new w _ | exact obj_alloc (heap_alloc_new w _) | exact obj_alloc (obj_alloc (heap_alloc_new w _))) Tryz.underlying126 rfl Tryz_sizeForm) rfl ⟨rfl, by first | exact form1 w _ | exact form2 w _ _ | exact form3 w _ _ _⟩
set_option maxRecDepth 20000 in
set_option maxHeartbeats 2000000 in
theorem FormOf_48 (w : World) : Calls Tryz.prog 72 #[.int .i64 48] w (FormTo 48 w) := by
  go_enter Tryz.func72, Tryz.ntmps72
  go_wp2_with fail
  all_goals go_region
  all_goals go_wp2
  all_goals refine bodyPost_ret (results_cell_row rfl _ _ w.heap.size 126 #[.int .u8 82, .int .u32 59, .int .u32 5, .int .u32 0] (0, 0) _ rfl (by first | exact heap_alloc_new w _ | exact obj_alloc (heap_alloc_new w _) | exact obj_alloc (obj_alloc (heap_alloc_new w _))) Tryz.underlying126 rfl Tryz_sizeForm) rfl ⟨rfl, by first | exact form1 w _ | exact form2 w _ _ | exact form3 w _ _ _⟩
set_option maxRecDepth 20000 in
set_option maxHeartbeats 2000000 in
theorem FormOf_49 (w : World) : Calls Tryz.prog 72 #[.int .i64 49] w (FormTo 49 w) := by
  go_enter Tryz.func72, Tryz.ntmps72
  go_wp2_with fail
  all_goals go_region
  all_goals go_wp2
  all_goals refine bodyPost_ret (results_cell_row rfl _ _ w.heap.size 126 #[.int .u8 82, .int .u32 59, .int .u32 5, .int .u32 32] (0, 0) _ rfl (by first | exact heap_alloc_new w _ | exact obj_alloc (heap_alloc_new w _) | exact obj_alloc (obj_alloc (heap_alloc_new w _))) Tryz.underlying126 rfl Tryz_sizeForm) rfl ⟨rfl, by first | exact form1 w _ | exact form2 w _ _ | exact form3 w _ _ _⟩
set_option maxRecDepth 20000 in
set_option maxHeartbeats 2000000 in
theorem FormOf_50 (w : World) : Calls Tryz.prog 72 #[.int .i64 50] w (FormTo 50 w) := by
  go_enter Tryz.func72, Tryz.ntmps72
  go_wp2
  refine bodyPost_ret (results_cell_row rfl _ _ w.heap.size 126 #[.int .u8 82, .int .u32 51, .int .u32 0, .int .u32 1] (0, 0) _ rfl (by first | exact heap_alloc_new w _ | exact obj_alloc (heap_alloc_new w _) | exact obj_alloc (obj_alloc (heap_alloc_new w _))) Tryz.underlying126 rfl Tryz_sizeForm) rfl ⟨rfl, by first | exact form1 w _ | exact form2 w _ _ | exact form3 w _ _ _⟩
set_option maxRecDepth 20000 in
set_option maxHeartbeats 2000000 in
theorem FormOf_51 (w : World) : Calls Tryz.prog 72 #[.int .i64 51] w (FormTo 51 w) := by
  go_enter Tryz.func72, Tryz.ntmps72
  go_wp2
  refine bodyPost_ret (results_cell_row rfl _ _ w.heap.size 126 #[.int .u8 82, .int .u32 51, .int .u32 1, .int .u32 1] (0, 0) _ rfl (by first | exact heap_alloc_new w _ | exact obj_alloc (heap_alloc_new w _) | exact obj_alloc (obj_alloc (heap_alloc_new w _))) Tryz.underlying126 rfl Tryz_sizeForm) rfl ⟨rfl, by first | exact form1 w _ | exact form2 w _ _ | exact form3 w _ _ _⟩
set_option maxRecDepth 20000 in
set_option maxHeartbeats 2000000 in
theorem FormOf_52 (w : World) : Calls Tryz.prog 72 #[.int .i64 52] w (FormTo 52 w) := by
  go_enter Tryz.func72, Tryz.ntmps72
  go_wp2
  refine bodyPost_ret (results_cell_row rfl _ _ w.heap.size 126 #[.int .u8 82, .int .u32 51, .int .u32 2, .int .u32 1] (0, 0) _ rfl (by first | exact heap_alloc_new w _ | exact obj_alloc (heap_alloc_new w _) | exact obj_alloc (obj_alloc (heap_alloc_new w _))) Tryz.underlying126 rfl Tryz_sizeForm) rfl ⟨rfl, by first | exact form1 w _ | exact form2 w _ _ | exact form3 w _ _ _⟩
set_option maxRecDepth 20000 in
set_option maxHeartbeats 2000000 in
theorem FormOf_53 (w : World) : Calls Tryz.prog 72 #[.int .i64 53] w (FormTo 53 w) := by
  go_enter Tryz.func72, Tryz.ntmps72
  go_wp2
  refine bodyPost_ret (results_cell_row rfl _ _ w.heap.size 126 #[.int .u8 82, .int .u32 51, .int .u32 3, .int .u32 1] (0, 0) _ rfl (by first | exact heap_alloc_new w _ | exact obj_alloc (heap_alloc_new w _) | exact obj_alloc (obj_alloc (heap_alloc_new w _))) Tryz.underlying126 rfl Tryz_sizeForm) rfl ⟨rfl, by first | exact form1 w _ | exact form2 w _ _ | exact form3 w _ _ _⟩
set_option maxRecDepth 20000 in
set_option maxHeartbeats 2000000 in
theorem FormOf_54 (w : World) : Calls Tryz.prog 72 #[.int .i64 54] w (FormTo 54 w) := by
  go_enter Tryz.func72, Tryz.ntmps72
  go_wp2
  refine bodyPost_ret (results_cell_row rfl _ _ w.heap.size 126 #[.int .u8 82, .int .u32 51, .int .u32 4, .int .u32 1] (0, 0) _ rfl (by first | exact heap_alloc_new w _ | exact obj_alloc (heap_alloc_new w _) | exact obj_alloc (obj_alloc (heap_alloc_new w _))) Tryz.underlying126 rfl Tryz_sizeForm) rfl ⟨rfl, by first | exact form1 w _ | exact form2 w _ _ | exact form3 w _ _ _⟩
set_option maxRecDepth 20000 in
set_option maxHeartbeats 2000000 in
theorem FormOf_55 (w : World) : Calls Tryz.prog 72 #[.int .i64 55] w (FormTo 55 w) := by
  go_enter Tryz.func72, Tryz.ntmps72
  go_wp2
  refine bodyPost_ret (results_cell_row rfl _ _ w.heap.size 126 #[.int .u8 82, .int .u32 51, .int .u32 5, .int .u32 1] (0, 0) _ rfl (by first | exact heap_alloc_new w _ | exact obj_alloc (heap_alloc_new w _) | exact obj_alloc (obj_alloc (heap_alloc_new w _))) Tryz.underlying126 rfl Tryz_sizeForm) rfl ⟨rfl, by first | exact form1 w _ | exact form2 w _ _ | exact form3 w _ _ _⟩
set_option maxRecDepth 20000 in
set_option maxHeartbeats 2000000 in
theorem FormOf_56 (w : World) : Calls Tryz.prog 72 #[.int .i64 56] w (FormTo 56 w) := by
  go_enter Tryz.func72, Tryz.ntmps72
  go_wp2
  refine bodyPost_ret (results_cell_row rfl _ _ w.heap.size 126 #[.int .u8 82, .int .u32 51, .int .u32 6, .int .u32 1] (0, 0) _ rfl (by first | exact heap_alloc_new w _ | exact obj_alloc (heap_alloc_new w _) | exact obj_alloc (obj_alloc (heap_alloc_new w _))) Tryz.underlying126 rfl Tryz_sizeForm) rfl ⟨rfl, by first | exact form1 w _ | exact form2 w _ _ | exact form3 w _ _ _⟩
set_option maxRecDepth 20000 in
set_option maxHeartbeats 2000000 in
theorem FormOf_57 (w : World) : Calls Tryz.prog 72 #[.int .i64 57] w (FormTo 57 w) := by
  go_enter Tryz.func72, Tryz.ntmps72
  go_wp2
  refine bodyPost_ret (results_cell_row rfl _ _ w.heap.size 126 #[.int .u8 82, .int .u32 51, .int .u32 7, .int .u32 1] (0, 0) _ rfl (by first | exact heap_alloc_new w _ | exact obj_alloc (heap_alloc_new w _) | exact obj_alloc (obj_alloc (heap_alloc_new w _))) Tryz.underlying126 rfl Tryz_sizeForm) rfl ⟨rfl, by first | exact form1 w _ | exact form2 w _ _ | exact form3 w _ _ _⟩
set_option maxRecDepth 20000 in
set_option maxHeartbeats 2000000 in
theorem FormOf_58 (w : World) : Calls Tryz.prog 72 #[.int .i64 58] w (FormTo 58 w) := by
  go_enter Tryz.func72, Tryz.ntmps72
  go_wp2
  refine bodyPost_ret (results_cell_row rfl _ _ w.heap.size 126 #[.int .u8 82, .int .u32 59, .int .u32 0, .int .u32 1] (0, 0) _ rfl (by first | exact heap_alloc_new w _ | exact obj_alloc (heap_alloc_new w _) | exact obj_alloc (obj_alloc (heap_alloc_new w _))) Tryz.underlying126 rfl Tryz_sizeForm) rfl ⟨rfl, by first | exact form1 w _ | exact form2 w _ _ | exact form3 w _ _ _⟩
set_option maxRecDepth 20000 in
set_option maxHeartbeats 2000000 in
theorem FormOf_59 (w : World) : Calls Tryz.prog 72 #[.int .i64 59] w (FormTo 59 w) := by
  go_enter Tryz.func72, Tryz.ntmps72
  go_wp2
  refine bodyPost_ret (results_cell_row rfl _ _ w.heap.size 126 #[.int .u8 82, .int .u32 59, .int .u32 4, .int .u32 1] (0, 0) _ rfl (by first | exact heap_alloc_new w _ | exact obj_alloc (heap_alloc_new w _) | exact obj_alloc (obj_alloc (heap_alloc_new w _))) Tryz.underlying126 rfl Tryz_sizeForm) rfl ⟨rfl, by first | exact form1 w _ | exact form2 w _ _ | exact form3 w _ _ _⟩
set_option maxRecDepth 20000 in
set_option maxHeartbeats 2000000 in
theorem FormOf_60 (w : World) : Calls Tryz.prog 72 #[.int .i64 60] w (FormTo 60 w) := by
  go_enter Tryz.func72, Tryz.ntmps72
  go_wp2
  refine bodyPost_ret (results_cell_row rfl _ _ w.heap.size 126 #[.int .u8 82, .int .u32 59, .int .u32 5, .int .u32 1] (0, 0) _ rfl (by first | exact heap_alloc_new w _ | exact obj_alloc (heap_alloc_new w _) | exact obj_alloc (obj_alloc (heap_alloc_new w _))) Tryz.underlying126 rfl Tryz_sizeForm) rfl ⟨rfl, by first | exact form1 w _ | exact form2 w _ _ | exact form3 w _ _ _⟩
set_option maxRecDepth 20000 in
set_option maxHeartbeats 2000000 in
theorem FormOf_61 (w : World) : Calls Tryz.prog 72 #[.int .i64 61] w (FormTo 61 w) := by
  go_enter Tryz.func72, Tryz.ntmps72
  go_wp2
  refine bodyPost_ret (results_cell_row rfl _ _ w.heap.size 126 #[.int .u8 82, .int .u32 59, .int .u32 6, .int .u32 1] (0, 0) _ rfl (by first | exact heap_alloc_new w _ | exact obj_alloc (heap_alloc_new w _) | exact obj_alloc (obj_alloc (heap_alloc_new w _))) Tryz.underlying126 rfl Tryz_sizeForm) rfl ⟨rfl, by first | exact form1 w _ | exact form2 w _ _ | exact form3 w _ _ _⟩
set_option maxRecDepth 20000 in
set_option maxHeartbeats 2000000 in
theorem FormOf_62 (w : World) : Calls Tryz.prog 72 #[.int .i64 62] w (FormTo 62 w) := by
  go_enter Tryz.func72, Tryz.ntmps72
  go_wp2
  refine bodyPost_ret (results_cell_row rfl _ _ w.heap.size 126 #[.int .u8 82, .int .u32 59, .int .u32 7, .int .u32 1] (0, 0) _ rfl (by first | exact heap_alloc_new w _ | exact obj_alloc (heap_alloc_new w _) | exact obj_alloc (obj_alloc (heap_alloc_new w _))) Tryz.underlying126 rfl Tryz_sizeForm) rfl ⟨rfl, by first | exact form1 w _ | exact form2 w _ _ | exact form3 w _ _ _⟩
set_option maxRecDepth 20000 in
set_option maxHeartbeats 2000000 in
theorem FormOf_63 (w : World) : Calls Tryz.prog 72 #[.int .i64 63] w (FormTo 63 w) := by
  go_enter Tryz.func72, Tryz.ntmps72
  go_wp2
  refine bodyPost_ret (results_cell_row rfl _ _ w.heap.size 126 #[.int .u8 78, .int .u32 15, .int .u32 0, .int .u32 0] (0, 0) _ rfl (by first | exact heap_alloc_new w _ | exact obj_alloc (heap_alloc_new w _) | exact obj_alloc (obj_alloc (heap_alloc_new w _))) Tryz.underlying126 rfl Tryz_sizeForm) rfl ⟨rfl, by first | exact form1 w _ | exact form2 w _ _ | exact form3 w _ _ _⟩
set_option maxRecDepth 20000 in
set_option maxHeartbeats 2000000 in
theorem FormOf_64 (w : World) : Calls Tryz.prog 72 #[.int .i64 64] w (FormTo 64 w) := by
  go_enter Tryz.func72, Tryz.ntmps72
  go_wp2
  refine bodyPost_ret (results_cell_row rfl _ _ w.heap.size 126 #[.int .u8 78, .int .u32 115, .int .u32 0, .int .u32 0] (0, 0) _ rfl (by first | exact heap_alloc_new w _ | exact obj_alloc (heap_alloc_new w _) | exact obj_alloc (obj_alloc (heap_alloc_new w _))) Tryz.underlying126 rfl Tryz_sizeForm) rfl ⟨rfl, by first | exact form1 w _ | exact form2 w _ _ | exact form3 w _ _ _⟩
set_option maxRecDepth 20000 in
set_option maxHeartbeats 2000000 in
theorem FormOf_65 (w : World) : Calls Tryz.prog 72 #[.int .i64 65] w (FormTo 65 w) := by
  go_enter Tryz.func72, Tryz.ntmps72
  go_wp2
  refine bodyPost_ret (results_cell_row rfl _ _ w.heap.size 126 #[.int .u8 78, .int .u32 1048691, .int .u32 0, .int .u32 0] (0, 0) _ rfl (by first | exact heap_alloc_new w _ | exact obj_alloc (heap_alloc_new w _) | exact obj_alloc (obj_alloc (heap_alloc_new w _))) Tryz.underlying126 rfl Tryz_sizeForm) rfl ⟨rfl, by first | exact form1 w _ | exact form2 w _ _ | exact form3 w _ _ _⟩
end Go.Proofs

/- patinaref01.FormOf of any number; Has, reg, imm, Right. -/
namespace Go.Proofs
open Go Go.RowKit Go.Pat
set_option maxRecDepth 20000 in
set_option maxHeartbeats 2000000 in
theorem FormOf_low (z : Int) (hz : z ≤ 0) (w : World) : Calls Tryz.prog 72 #[.int .i64 z] w (FormTo z w) := by
  have HZ := Lib.hid (show formZ z = (0, 0, 0, 0) by unfold formZ formR; rw [show z.toNat = 0 by omega]; rfl)
  have e1 : (z == 1) = false := by simp; omega
  have e2 : (z == 2) = false := by simp; omega
  have e3 : (z == 3) = false := by simp; omega
  have e4 : (z == 4) = false := by simp; omega
  have e31 : (z == 31) = false := by simp; omega
  have e63 : (z == 63) = false := by simp; omega
  have e64 : (z == 64) = false := by simp; omega
  have e65 : (z == 65) = false := by simp; omega
  have l5 : decide (5 ≤ z) = false := decide_eq_false (by omega)
  have l11 : decide (11 ≤ z) = false := decide_eq_false (by omega)
  have l18 : decide (18 ≤ z) = false := decide_eq_false (by omega)
  have l22 : decide (22 ≤ z) = false := decide_eq_false (by omega)
  have l28 : decide (28 ≤ z) = false := decide_eq_false (by omega)
  have l32 : decide (32 ≤ z) = false := decide_eq_false (by omega)
  have l35 : decide (35 ≤ z) = false := decide_eq_false (by omega)
  have l45 : decide (45 ≤ z) = false := decide_eq_false (by omega)
  have l50 : decide (50 ≤ z) = false := decide_eq_false (by omega)
  have l58 : decide (58 ≤ z) = false := decide_eq_false (by omega)
  clear hz
  go_enter Tryz.func72, Tryz.ntmps72
  go_wp2
  refine bodyPost_ret (results_cell_row rfl _ _ w.heap.size 126 #[.int .u8 0, .int .u32 0, .int .u32 0, .int .u32 0] (0, 0) _ rfl (heap_alloc_new w _) Tryz.underlying126 rfl Tryz_sizeForm) rfl ⟨by rw [HZ.out]; rfl, form1 w _⟩
set_option maxRecDepth 20000 in
set_option maxHeartbeats 2000000 in
theorem FormOf_high (z : Int) (hz : 65 < z) (w : World) : Calls Tryz.prog 72 #[.int .i64 z] w (FormTo z w) := by
  have HZ := Lib.hid (show formZ z = (0, 0, 0, 0) by unfold formZ formR; rw [List.getD_eq_getElem?_getD, List.getElem?_eq_none (show formsT.length ≤ z.toNat by show 66 ≤ _; omega)]; rfl)
  have e1 : (z == 1) = false := by simp; omega
  have e2 : (z == 2) = false := by simp; omega
  have e3 : (z == 3) = false := by simp; omega
  have e4 : (z == 4) = false := by simp; omega
  have e31 : (z == 31) = false := by simp; omega
  have e63 : (z == 63) = false := by simp; omega
  have e64 : (z == 64) = false := by simp; omega
  have e65 : (z == 65) = false := by simp; omega
  have l5 : decide (5 ≤ z) = true := decide_eq_true (by omega)
  have h10 : decide (z ≤ 10) = false := decide_eq_false (by omega)
  have l11 : decide (11 ≤ z) = true := decide_eq_true (by omega)
  have h17 : decide (z ≤ 17) = false := decide_eq_false (by omega)
  have l18 : decide (18 ≤ z) = true := decide_eq_true (by omega)
  have h21 : decide (z ≤ 21) = false := decide_eq_false (by omega)
  have l22 : decide (22 ≤ z) = true := decide_eq_true (by omega)
  have h27 : decide (z ≤ 27) = false := decide_eq_false (by omega)
  have l28 : decide (28 ≤ z) = true := decide_eq_true (by omega)
  have h30 : decide (z ≤ 30) = false := decide_eq_false (by omega)
  have l32 : decide (32 ≤ z) = true := decide_eq_true (by omega)
  have h34 : decide (z ≤ 34) = false := decide_eq_false (by omega)
  have l35 : decide (35 ≤ z) = true := decide_eq_true (by omega)
  have h44 : decide (z ≤ 44) = false := decide_eq_false (by omega)
  have l45 : decide (45 ≤ z) = true := decide_eq_true (by omega)
  have h49 : decide (z ≤ 49) = false := decide_eq_false (by omega)
  have l50 : decide (50 ≤ z) = true := decide_eq_true (by omega)
  have h57 : decide (z ≤ 57) = false := decide_eq_false (by omega)
  have l58 : decide (58 ≤ z) = true := decide_eq_true (by omega)
  have h62 : decide (z ≤ 62) = false := decide_eq_false (by omega)
  clear hz
  go_enter Tryz.func72, Tryz.ntmps72
  go_wp2
  refine bodyPost_ret (results_cell_row rfl _ _ w.heap.size 126 #[.int .u8 0, .int .u32 0, .int .u32 0, .int .u32 0] (0, 0) _ rfl (heap_alloc_new w _) Tryz.underlying126 rfl Tryz_sizeForm) rfl ⟨by rw [HZ.out]; rfl, form1 w _⟩
theorem FormOf_any (z : Int) (w : World) : Calls Tryz.prog 72 #[.int .i64 z] w (FormTo z w) := by
  by_cases h0 : z ≤ 0
  · exact FormOf_low z h0 w
  by_cases h1 : 65 < z
  · exact FormOf_high z h1 w
  obtain ⟨op, rfl⟩ : ∃ op : Nat, z = op := ⟨z.toNat, by omega⟩
  have ho : op = 1 ∨ op = 2 ∨ op = 3 ∨ op = 4 ∨ op = 5 ∨ op = 6 ∨ op = 7 ∨ op = 8 ∨ op = 9 ∨ op = 10 ∨ op = 11 ∨ op = 12 ∨ op = 13 ∨ op = 14 ∨ op = 15 ∨ op = 16 ∨ op = 17 ∨ op = 18 ∨ op = 19 ∨ op = 20 ∨ op = 21 ∨ op = 22 ∨ op = 23 ∨ op = 24 ∨ op = 25 ∨ op = 26 ∨ op = 27 ∨ op = 28 ∨ op = 29 ∨ op = 30 ∨ op = 31 ∨ op = 32 ∨ op = 33 ∨ op = 34 ∨ op = 35 ∨ op = 36 ∨ op = 37 ∨ op = 38 ∨ op = 39 ∨ op = 40 ∨ op = 41 ∨ op = 42 ∨ op = 43 ∨ op = 44 ∨ op = 45 ∨ op = 46 ∨ op = 47 ∨ op = 48 ∨ op = 49 ∨ op = 50 ∨ op = 51 ∨ op = 52 ∨ op = 53 ∨ op = 54 ∨ op = 55 ∨ op = 56 ∨ op = 57 ∨ op = 58 ∨ op = 59 ∨ op = 60 ∨ op = 61 ∨ op = 62 ∨ op = 63 ∨ op = 64 ∨ op = 65 := by omega
  clear h0 h1
  rcases ho with rfl | rfl | rfl | rfl | rfl | rfl | rfl | rfl | rfl | rfl | rfl | rfl | rfl | rfl | rfl | rfl | rfl | rfl | rfl | rfl | rfl | rfl | rfl | rfl | rfl | rfl | rfl | rfl | rfl | rfl | rfl | rfl | rfl | rfl | rfl | rfl | rfl | rfl | rfl | rfl | rfl | rfl | rfl | rfl | rfl | rfl | rfl | rfl | rfl | rfl | rfl | rfl | rfl | rfl | rfl | rfl | rfl | rfl | rfl | rfl | rfl | rfl | rfl | rfl | rfl
  · exact FormOf_1 w
  · exact FormOf_2 w
  · exact FormOf_3 w
  · exact FormOf_4 w
  · exact FormOf_5 w
  · exact FormOf_6 w
  · exact FormOf_7 w
  · exact FormOf_8 w
  · exact FormOf_9 w
  · exact FormOf_10 w
  · exact FormOf_11 w
  · exact FormOf_12 w
  · exact FormOf_13 w
  · exact FormOf_14 w
  · exact FormOf_15 w
  · exact FormOf_16 w
  · exact FormOf_17 w
  · exact FormOf_18 w
  · exact FormOf_19 w
  · exact FormOf_20 w
  · exact FormOf_21 w
  · exact FormOf_22 w
  · exact FormOf_23 w
  · exact FormOf_24 w
  · exact FormOf_25 w
  · exact FormOf_26 w
  · exact FormOf_27 w
  · exact FormOf_28 w
  · exact FormOf_29 w
  · exact FormOf_30 w
  · exact FormOf_31 w
  · exact FormOf_32 w
  · exact FormOf_33 w
  · exact FormOf_34 w
  · exact FormOf_35 w
  · exact FormOf_36 w
  · exact FormOf_37 w
  · exact FormOf_38 w
  · exact FormOf_39 w
  · exact FormOf_40 w
  · exact FormOf_41 w
  · exact FormOf_42 w
  · exact FormOf_43 w
  · exact FormOf_44 w
  · exact FormOf_45 w
  · exact FormOf_46 w
  · exact FormOf_47 w
  · exact FormOf_48 w
  · exact FormOf_49 w
  · exact FormOf_50 w
  · exact FormOf_51 w
  · exact FormOf_52 w
  · exact FormOf_53 w
  · exact FormOf_54 w
  · exact FormOf_55 w
  · exact FormOf_56 w
  · exact FormOf_57 w
  · exact FormOf_58 w
  · exact FormOf_59 w
  · exact FormOf_60 w
  · exact FormOf_61 w
  · exact FormOf_62 w
  · exact FormOf_63 w
  · exact FormOf_64 w
  · exact FormOf_65 w
end Go.Proofs

/- patinaref01.Has, reg, imm, Right. -/
namespace Go.Pat
open Go Go.RowKit
def lettersL : List Nat := [0, 85, 74, 73, 66, 83, 72, 104, 82, 78]
theorem formR_letter (op : Nat) : (formR op).1 ∈ lettersL := by
  by_cases h : op < 66
  · exact (show ∀ k, k < 66 → (formR k).1 ∈ lettersL by decide) op h
  · unfold formR
    rw [List.getD_eq_getElem?_getD, List.getElem?_eq_none (show formsT.length ≤ op by show 66 ≤ _; omega)]
    decide
def regB (r : Int) (named : Bool) : Bool := if named then decide (0 ≤ r) && decide (r ≤ 31) else r == 0
/-- is a number in a form's range? -/
def immB1 (l : Nat) (n : Int) : Bool :=
  if l = 73 ∨ l = 83 then decide (-2048 ≤ n) && decide (n ≤ 2047)
  else if l = 66 then (decide (-4096 ≤ n) && decide (n ≤ 4094)) && (n % 2 == 0)
  else if l = 74 then (decide (-1048576 ≤ n) && decide (n ≤ 1048574)) && (n % 2 == 0)
  else if l = 85 then decide (-524288 ≤ n) && decide (n ≤ 524287)
  else if l = 72 then decide (0 ≤ n) && decide (n ≤ 63)
  else if l = 104 then decide (0 ≤ n) && decide (n ≤ 31)
  else n == 0
def rightI (op rd a b n : Int) : Bool :=
  ((((((formZ op).1 : Int) != 0) && regB rd (hasD1 (formZ op).1)) && regB a (has11 (formZ op).1)) && regB b (has21 (formZ op).1)) && immB1 (formZ op).1 n
end Go.Pat
namespace Go.Proofs
open Go Go.RowKit Go.Pat
def HasTo (l : Nat) (w : World) (e : Ending) (w' : World) : Prop := e = .returned (.tuple #[.bool (hasD1 l), .bool (has11 l), .bool (has21 l)]) ∧ w' = w
theorem r1Has_0 (w : World) : Calls Tryz.prog 73 #[.int .u8 0] w (HasTo 0 w) := by
  go_enter Tryz.func73, Tryz.ntmps73
  go_wp2
  go_ret3
  exact ⟨rfl, rfl⟩
theorem r1Has_85 (w : World) : Calls Tryz.prog 73 #[.int .u8 85] w (HasTo 85 w) := by
  go_enter Tryz.func73, Tryz.ntmps73
  go_wp2
  go_ret3
  exact ⟨rfl, rfl⟩
theorem r1Has_74 (w : World) : Calls Tryz.prog 73 #[.int .u8 74] w (HasTo 74 w) := by
  go_enter Tryz.func73, Tryz.ntmps73
  go_wp2
  go_ret3
  exact ⟨rfl, rfl⟩
theorem r1Has_73 (w : World) : Calls Tryz.prog 73 #[.int .u8 73] w (HasTo 73 w) := by
  go_enter Tryz.func73, Tryz.ntmps73
  go_wp2
  go_ret3
  exact ⟨rfl, rfl⟩
theorem r1Has_66 (w : World) : Calls Tryz.prog 73 #[.int .u8 66] w (HasTo 66 w) := by
  go_enter Tryz.func73, Tryz.ntmps73
  go_wp2
  go_ret3
  exact ⟨rfl, rfl⟩
theorem r1Has_83 (w : World) : Calls Tryz.prog 73 #[.int .u8 83] w (HasTo 83 w) := by
  go_enter Tryz.func73, Tryz.ntmps73
  go_wp2
  go_ret3
  exact ⟨rfl, rfl⟩
theorem r1Has_72 (w : World) : Calls Tryz.prog 73 #[.int .u8 72] w (HasTo 72 w) := by
  go_enter Tryz.func73, Tryz.ntmps73
  go_wp2
  go_ret3
  exact ⟨rfl, rfl⟩
theorem r1Has_104 (w : World) : Calls Tryz.prog 73 #[.int .u8 104] w (HasTo 104 w) := by
  go_enter Tryz.func73, Tryz.ntmps73
  go_wp2
  go_ret3
  exact ⟨rfl, rfl⟩
theorem r1Has_82 (w : World) : Calls Tryz.prog 73 #[.int .u8 82] w (HasTo 82 w) := by
  go_enter Tryz.func73, Tryz.ntmps73
  go_wp2
  go_ret3
  exact ⟨rfl, rfl⟩
theorem r1Has_78 (w : World) : Calls Tryz.prog 73 #[.int .u8 78] w (HasTo 78 w) := by
  go_enter Tryz.func73, Tryz.ntmps73
  go_wp2
  go_ret3
  exact ⟨rfl, rfl⟩
theorem r1Has_any (l : Nat) (hl : l ∈ lettersL) (w : World) : Calls Tryz.prog 73 #[.int .u8 (l : Int)] w (HasTo l w) := by
  simp only [lettersL, List.mem_cons, List.not_mem_nil, or_false] at hl
  rcases hl with rfl | rfl | rfl | rfl | rfl | rfl | rfl | rfl | rfl | rfl
  · exact r1Has_0 w
  · exact r1Has_85 w
  · exact r1Has_74 w
  · exact r1Has_73 w
  · exact r1Has_66 w
  · exact r1Has_83 w
  · exact r1Has_72 w
  · exact r1Has_104 w
  · exact r1Has_82 w
  · exact r1Has_78 w
theorem r1reg_any (r : Int) (nm : Bool) (w : World) : Calls Tryz.prog 76 #[.int .i64 r, .bool nm] w fun e w' => e = .returned (.bool (regB r nm)) ∧ w' = w := by
  cases nm
  · cases t1 : (r == 0)
    · go_enter Tryz.func76, Tryz.ntmps76
      go_wp2
      go_ret
      exact ⟨by simp [regB, t1], rfl⟩
    · go_enter Tryz.func76, Tryz.ntmps76
      go_wp2
      go_ret
      exact ⟨by simp [regB, t1], rfl⟩
  · cases t1 : decide (0 ≤ r)
    · go_enter Tryz.func76, Tryz.ntmps76
      go_wp2
      go_ret
      exact ⟨by simp [regB, t1], rfl⟩
    · cases t2 : decide (r ≤ 31)
      · go_enter Tryz.func76, Tryz.ntmps76
        go_wp2
        go_ret
        exact ⟨by simp [regB, t1, t2], rfl⟩
      · go_enter Tryz.func76, Tryz.ntmps76
        go_wp2
        go_ret
        exact ⟨by simp [regB, t1, t2], rfl⟩
theorem tmod2 (n : Int) : (n.tmod 2 == 0) = (n % 2 == 0) := by
  rw [Bool.eq_iff_iff, beq_iff_eq, beq_iff_eq]
  constructor
  · intro h
    have := Int.dvd_of_tmod_eq_zero h
    omega
  · intro h
    exact Int.tmod_eq_zero_of_dvd (by omega)
theorem r1imm_0 (n : Int) (w : World) : Calls Tryz.prog 77 #[.int .u8 0, .int .i64 n] w fun e w' => e = .returned (.bool (immB1 0 n)) ∧ w' = w := by
  rw [show immB1 0 n = (n == 0) from rfl]
  cases t1 : (n == 0)
  · go_enter Tryz.func77, Tryz.ntmps77
    go_wp2
    go_ret
    exact ⟨rfl, rfl⟩
  · go_enter Tryz.func77, Tryz.ntmps77
    go_wp2
    go_ret
    exact ⟨rfl, rfl⟩
theorem r1imm_85 (n : Int) (w : World) : Calls Tryz.prog 77 #[.int .u8 85, .int .i64 n] w fun e w' => e = .returned (.bool (immB1 85 n)) ∧ w' = w := by
  rw [show immB1 85 n = (decide (-524288 ≤ n) && decide (n ≤ 524287)) from rfl]
  cases t1 : decide (-524288 ≤ n)
  · go_enter Tryz.func77, Tryz.ntmps77
    go_wp2
    go_ret
    exact ⟨rfl, rfl⟩
  · cases t2 : decide (n ≤ 524287)
    · go_enter Tryz.func77, Tryz.ntmps77
      go_wp2
      go_ret
      exact ⟨rfl, rfl⟩
    · go_enter Tryz.func77, Tryz.ntmps77
      go_wp2
      go_ret
      exact ⟨rfl, rfl⟩
theorem r1imm_74 (n : Int) (w : World) : Calls Tryz.prog 77 #[.int .u8 74, .int .i64 n] w fun e w' => e = .returned (.bool (immB1 74 n)) ∧ w' = w := by
  rw [show immB1 74 n = ((decide (-1048576 ≤ n) && decide (n ≤ 1048574)) && (n % 2 == 0)) from rfl]
  have tm : (n.tmod 2 == 0) = (n % 2 == 0) := tmod2 n
  cases t1 : decide (-1048576 ≤ n)
  · go_enter Tryz.func77, Tryz.ntmps77
    go_wp2
    go_ret
    exact ⟨rfl, rfl⟩
  · cases t2 : decide (n ≤ 1048574)
    · go_enter Tryz.func77, Tryz.ntmps77
      go_wp2
      go_ret
      exact ⟨rfl, rfl⟩
    · cases t3 : (n % 2 == 0)
      · rw [t3] at tm
        go_enter Tryz.func77, Tryz.ntmps77
        go_wp2
        go_ret
        exact ⟨rfl, rfl⟩
      · rw [t3] at tm
        go_enter Tryz.func77, Tryz.ntmps77
        go_wp2
        go_ret
        exact ⟨rfl, rfl⟩
theorem r1imm_73 (n : Int) (w : World) : Calls Tryz.prog 77 #[.int .u8 73, .int .i64 n] w fun e w' => e = .returned (.bool (immB1 73 n)) ∧ w' = w := by
  rw [show immB1 73 n = (decide (-2048 ≤ n) && decide (n ≤ 2047)) from rfl]
  cases t1 : decide (-2048 ≤ n)
  · go_enter Tryz.func77, Tryz.ntmps77
    go_wp2
    go_ret
    exact ⟨rfl, rfl⟩
  · cases t2 : decide (n ≤ 2047)
    · go_enter Tryz.func77, Tryz.ntmps77
      go_wp2
      go_ret
      exact ⟨rfl, rfl⟩
    · go_enter Tryz.func77, Tryz.ntmps77
      go_wp2
      go_ret
      exact ⟨rfl, rfl⟩
theorem r1imm_66 (n : Int) (w : World) : Calls Tryz.prog 77 #[.int .u8 66, .int .i64 n] w fun e w' => e = .returned (.bool (immB1 66 n)) ∧ w' = w := by
  rw [show immB1 66 n = ((decide (-4096 ≤ n) && decide (n ≤ 4094)) && (n % 2 == 0)) from rfl]
  have tm : (n.tmod 2 == 0) = (n % 2 == 0) := tmod2 n
  cases t1 : decide (-4096 ≤ n)
  · go_enter Tryz.func77, Tryz.ntmps77
    go_wp2
    go_ret
    exact ⟨rfl, rfl⟩
  · cases t2 : decide (n ≤ 4094)
    · go_enter Tryz.func77, Tryz.ntmps77
      go_wp2
      go_ret
      exact ⟨rfl, rfl⟩
    · cases t3 : (n % 2 == 0)
      · rw [t3] at tm
        go_enter Tryz.func77, Tryz.ntmps77
        go_wp2
        go_ret
        exact ⟨rfl, rfl⟩
      · rw [t3] at tm
        go_enter Tryz.func77, Tryz.ntmps77
        go_wp2
        go_ret
        exact ⟨rfl, rfl⟩
theorem r1imm_83 (n : Int) (w : World) : Calls Tryz.prog 77 #[.int .u8 83, .int .i64 n] w fun e w' => e = .returned (.bool (immB1 83 n)) ∧ w' = w := by
  rw [show immB1 83 n = (decide (-2048 ≤ n) && decide (n ≤ 2047)) from rfl]
  cases t1 : decide (-2048 ≤ n)
  · go_enter Tryz.func77, Tryz.ntmps77
    go_wp2
    go_ret
    exact ⟨rfl, rfl⟩
  · cases t2 : decide (n ≤ 2047)
    · go_enter Tryz.func77, Tryz.ntmps77
      go_wp2
      go_ret
      exact ⟨rfl, rfl⟩
    · go_enter Tryz.func77, Tryz.ntmps77
      go_wp2
      go_ret
      exact ⟨rfl, rfl⟩
theorem r1imm_72 (n : Int) (w : World) : Calls Tryz.prog 77 #[.int .u8 72, .int .i64 n] w fun e w' => e = .returned (.bool (immB1 72 n)) ∧ w' = w := by
  rw [show immB1 72 n = (decide (0 ≤ n) && decide (n ≤ 63)) from rfl]
  cases t1 : decide (0 ≤ n)
  · go_enter Tryz.func77, Tryz.ntmps77
    go_wp2
    go_ret
    exact ⟨rfl, rfl⟩
  · cases t2 : decide (n ≤ 63)
    · go_enter Tryz.func77, Tryz.ntmps77
      go_wp2
      go_ret
      exact ⟨rfl, rfl⟩
    · go_enter Tryz.func77, Tryz.ntmps77
      go_wp2
      go_ret
      exact ⟨rfl, rfl⟩
theorem r1imm_104 (n : Int) (w : World) : Calls Tryz.prog 77 #[.int .u8 104, .int .i64 n] w fun e w' => e = .returned (.bool (immB1 104 n)) ∧ w' = w := by
  rw [show immB1 104 n = (decide (0 ≤ n) && decide (n ≤ 31)) from rfl]
  cases t1 : decide (0 ≤ n)
  · go_enter Tryz.func77, Tryz.ntmps77
    go_wp2
    go_ret
    exact ⟨rfl, rfl⟩
  · cases t2 : decide (n ≤ 31)
    · go_enter Tryz.func77, Tryz.ntmps77
      go_wp2
      go_ret
      exact ⟨rfl, rfl⟩
    · go_enter Tryz.func77, Tryz.ntmps77
      go_wp2
      go_ret
      exact ⟨rfl, rfl⟩
theorem r1imm_82 (n : Int) (w : World) : Calls Tryz.prog 77 #[.int .u8 82, .int .i64 n] w fun e w' => e = .returned (.bool (immB1 82 n)) ∧ w' = w := by
  rw [show immB1 82 n = (n == 0) from rfl]
  cases t1 : (n == 0)
  · go_enter Tryz.func77, Tryz.ntmps77
    go_wp2
    go_ret
    exact ⟨rfl, rfl⟩
  · go_enter Tryz.func77, Tryz.ntmps77
    go_wp2
    go_ret
    exact ⟨rfl, rfl⟩
theorem r1imm_78 (n : Int) (w : World) : Calls Tryz.prog 77 #[.int .u8 78, .int .i64 n] w fun e w' => e = .returned (.bool (immB1 78 n)) ∧ w' = w := by
  rw [show immB1 78 n = (n == 0) from rfl]
  cases t1 : (n == 0)
  · go_enter Tryz.func77, Tryz.ntmps77
    go_wp2
    go_ret
    exact ⟨rfl, rfl⟩
  · go_enter Tryz.func77, Tryz.ntmps77
    go_wp2
    go_ret
    exact ⟨rfl, rfl⟩
theorem r1imm_any (l : Nat) (hl : l ∈ lettersL) (n : Int) (w : World) : Calls Tryz.prog 77 #[.int .u8 (l : Int), .int .i64 n] w fun e w' => e = .returned (.bool (immB1 l n)) ∧ w' = w := by
  simp only [lettersL, List.mem_cons, List.not_mem_nil, or_false] at hl
  rcases hl with rfl | rfl | rfl | rfl | rfl | rfl | rfl | rfl | rfl | rfl
  · exact r1imm_0 n w
  · exact r1imm_85 n w
  · exact r1imm_74 n w
  · exact r1imm_73 n w
  · exact r1imm_66 n w
  · exact r1imm_83 n w
  · exact r1imm_72 n w
  · exact r1imm_104 n w
  · exact r1imm_82 n w
  · exact r1imm_78 n w
set_option maxRecDepth 20000 in
set_option maxHeartbeats 4000000 in
theorem r1Right_any (op rd a b n : Int) (w : World) : Calls Tryz.prog 54 #[.agg #[.int .i64 op, .int .i64 rd, .int .i64 a, .int .i64 b, .int .i64 n]] w fun e w' => e = .returned (.bool (rightI op rd a b n)) ∧ Below w.heap.size w w' := by
  have hl : (formZ op).1 ∈ lettersL := formR_letter _
  have HF := Lib.hid (fun W => FormOf_any op W)
  unfold FormTo formV at HF
  unfold rightI
  generalize (formZ op).1 = l at *
  have HI := Lib.hid (fun W => r1imm_any l hl n W)
  have HH := Lib.hid (fun W => r1Has_any l hl W)
  unfold HasTo at HH
  have HG := Lib.hid (fun r nm W => r1reg_any r nm W)
  clear hl
  generalize hasD1 l = d1 at *
  generalize has11 l = d2 at *
  generalize has21 l = d3 at *
  generalize immB1 l n = d4 at *
  go_enter Tryz.func54, Tryz.ntmps54
  go_wp2_with fail
  refine Calls.mono (HF.out _) ?_
  rintro e w1 ⟨rfl, hB1⟩
  have hB0 : Below w.heap.size w (w.alloc (.cells #[.int .i64 op, .int .i64 rd, .int .i64 a, .int .i64 b, .int .i64 n] 78)) := form1 w _
  have hBw := hB0.trans (hB1.mono hB0.size)
  have hb1 : w1.heap[w.heap.size]? = some (.cells #[.int .i64 op, .int .i64 rd, .int .i64 a, .int .i64 b, .int .i64 n] 78 (0, 0)) := (hB1.block _ (by rw [World.size_alloc]; omega)).trans (heap_alloc_new w _)
  have x0 : w1.cell? ⟨w.heap.size, 0, none⟩ = some (.int .i64 op) := (obj_cell hb1 0).trans rfl
  have x1 : w1.cell? ⟨w.heap.size, 1, none⟩ = some (.int .i64 rd) := (obj_cell hb1 1).trans rfl
  have x2 : w1.cell? ⟨w.heap.size, 2, none⟩ = some (.int .i64 a) := (obj_cell hb1 2).trans rfl
  have x3 : w1.cell? ⟨w.heap.size, 3, none⟩ = some (.int .i64 b) := (obj_cell hb1 3).trans rfl
  have x4 : w1.cell? ⟨w.heap.size, 4, none⟩ = some (.int .i64 n) := (obj_cell hb1 4).trans rfl
  have hz : w.heap.size < w1.heap.size := by have := hB1.size; rw [World.size_alloc] at this; omega
  clear hb1 hB0
  cases t0 : ((l : Int) != 0)
  · go_wp2_with (first
      | (go_at_call 73; refine (HH.out _).mono ?_; rintro e w' ⟨rfl, rfl⟩)
      | (go_at_call 76; refine (HG.out _ _ _).mono ?_; rintro e w' ⟨rfl, rfl⟩)
      | (go_at_call 77; refine (HI.out _).mono ?_; rintro e w' ⟨rfl, rfl⟩))
    go_ret
    exact ⟨by simp [t0], hBw.alloc hBw.size _⟩
  · cases t1 : regB rd d1
    · go_wp2_with (first
        | (go_at_call 73; refine (HH.out _).mono ?_; rintro e w' ⟨rfl, rfl⟩)
        | (go_at_call 76; refine (HG.out _ _ _).mono ?_; rintro e w' ⟨rfl, rfl⟩)
        | (go_at_call 77; refine (HI.out _).mono ?_; rintro e w' ⟨rfl, rfl⟩))
      go_ret
      exact ⟨by simp [t0, t1], hBw.alloc hBw.size _⟩
    · cases t2 : regB a d2
      · go_wp2_with (first
          | (go_at_call 73; refine (HH.out _).mono ?_; rintro e w' ⟨rfl, rfl⟩)
          | (go_at_call 76; refine (HG.out _ _ _).mono ?_; rintro e w' ⟨rfl, rfl⟩)
          | (go_at_call 77; refine (HI.out _).mono ?_; rintro e w' ⟨rfl, rfl⟩))
        go_ret
        exact ⟨by simp [t0, t1, t2], hBw.alloc hBw.size _⟩
      · cases t3 : regB b d3
        · go_wp2_with (first
            | (go_at_call 73; refine (HH.out _).mono ?_; rintro e w' ⟨rfl, rfl⟩)
            | (go_at_call 76; refine (HG.out _ _ _).mono ?_; rintro e w' ⟨rfl, rfl⟩)
            | (go_at_call 77; refine (HI.out _).mono ?_; rintro e w' ⟨rfl, rfl⟩))
          go_ret
          exact ⟨by simp [t0, t1, t2, t3], hBw.alloc hBw.size _⟩
        · cases t4 : d4
          · go_wp2_with (first
              | (go_at_call 73; refine (HH.out _).mono ?_; rintro e w' ⟨rfl, rfl⟩)
              | (go_at_call 76; refine (HG.out _ _ _).mono ?_; rintro e w' ⟨rfl, rfl⟩)
              | (go_at_call 77; refine (HI.out _).mono ?_; rintro e w' ⟨rfl, rfl⟩))
            go_ret
            exact ⟨by simp [t0, t1, t2, t3, t4], hBw.alloc hBw.size _⟩
          · go_wp2_with (first
              | (go_at_call 73; refine (HH.out _).mono ?_; rintro e w' ⟨rfl, rfl⟩)
              | (go_at_call 76; refine (HG.out _ _ _).mono ?_; rintro e w' ⟨rfl, rfl⟩)
              | (go_at_call 77; refine (HI.out _).mono ?_; rintro e w' ⟨rfl, rfl⟩))
            go_ret
            exact ⟨by simp [t0, t1, t2, t3, t4], hBw.alloc hBw.size _⟩
end Go.Proofs
