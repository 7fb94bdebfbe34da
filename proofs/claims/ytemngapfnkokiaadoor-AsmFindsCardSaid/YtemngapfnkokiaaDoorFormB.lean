/- patinaref01.FormOf of the operations 39 to 65. -/
import Derived.Test.YtemngapfnkokiaaDoorFormP
namespace Go.Proofs
open Go Go.RowKit Go.Pat
set_option maxRecDepth 20000 in
set_option maxHeartbeats 2000000 in
theorem FormOf_39 (w : World) : Calls Tryd.prog 38 #[.int .i64 39] w (FormTo 39 w) := by
  go_enter Tryd.func38, Tryd.ntmps38
  go_wp2_with fail
  all_goals go_region
  all_goals go_wp2
  all_goals refine bodyPost_ret (results_cell_row rfl _ _ w.heap.size 91 #[.int .u8 82, .int .u32 51, .int .u32 3, .int .u32 0] (0, 0) _ rfl (by first | exact heap_alloc_new w _ | exact obj_alloc (heap_alloc_new w _) | exact obj_alloc (obj_alloc (heap_alloc_new w _))) Tryd.underlying91 rfl Tryd_sizeForm) rfl ⟨rfl, by first | exact form1 w _ | exact form2 w _ _ | exact form3 w _ _ _⟩
set_option maxRecDepth 20000 in
set_option maxHeartbeats 2000000 in
theorem FormOf_40 (w : World) : Calls Tryd.prog 38 #[.int .i64 40] w (FormTo 40 w) := by
  go_enter Tryd.func38, Tryd.ntmps38
  go_wp2_with fail
  all_goals go_region
  all_goals go_wp2
  all_goals refine bodyPost_ret (results_cell_row rfl _ _ w.heap.size 91 #[.int .u8 82, .int .u32 51, .int .u32 4, .int .u32 0] (0, 0) _ rfl (by first | exact heap_alloc_new w _ | exact obj_alloc (heap_alloc_new w _) | exact obj_alloc (obj_alloc (heap_alloc_new w _))) Tryd.underlying91 rfl Tryd_sizeForm) rfl ⟨rfl, by first | exact form1 w _ | exact form2 w _ _ | exact form3 w _ _ _⟩
set_option maxRecDepth 20000 in
set_option maxHeartbeats 2000000 in
theorem FormOf_41 (w : World) : Calls Tryd.prog 38 #[.int .i64 41] w (FormTo 41 w) := by
  go_enter Tryd.func38, Tryd.ntmps38
  go_wp2_with fail
  all_goals go_region
  all_goals go_wp2
  all_goals refine bodyPost_ret (results_cell_row rfl _ _ w.heap.size 91 #[.int .u8 82, .int .u32 51, .int .u32 5, .int .u32 0] (0, 0) _ rfl (by first | exact heap_alloc_new w _ | exact obj_alloc (heap_alloc_new w _) | exact obj_alloc (obj_alloc (heap_alloc_new w _))) Tryd.underlying91 rfl Tryd_sizeForm) rfl ⟨rfl, by first | exact form1 w _ | exact form2 w _ _ | exact form3 w _ _ _⟩
set_option maxRecDepth 20000 in
set_option maxHeartbeats 2000000 in
theorem FormOf_42 (w : World) : Calls Tryd.prog 38 #[.int .i64 42] w (FormTo 42 w) := by
  go_enter Tryd.func38, Tryd.ntmps38
  go_wp2_with fail
  all_goals go_region
  all_goals go_wp2
  all_goals refine bodyPost_ret (results_cell_row rfl _ _ w.heap.size 91 #[.int .u8 82, .int .u32 51, .int .u32 5, .int .u32 32] (0, 0) _ rfl (by first | exact heap_alloc_new w _ | exact obj_alloc (heap_alloc_new w _) | exact obj_alloc (obj_alloc (heap_alloc_new w _))) Tryd.underlying91 rfl Tryd_sizeForm) rfl ⟨rfl, by first | exact form1 w _ | exact form2 w _ _ | exact form3 w _ _ _⟩
set_option maxRecDepth 20000 in
set_option maxHeartbeats 2000000 in
theorem FormOf_43 (w : World) : Calls Tryd.prog 38 #[.int .i64 43] w (FormTo 43 w) := by
  go_enter Tryd.func38, Tryd.ntmps38
  go_wp2_with fail
  all_goals go_region
  all_goals go_wp2
  all_goals refine bodyPost_ret (results_cell_row rfl _ _ w.heap.size 91 #[.int .u8 82, .int .u32 51, .int .u32 6, .int .u32 0] (0, 0) _ rfl (by first | exact heap_alloc_new w _ | exact obj_alloc (heap_alloc_new w _) | exact obj_alloc (obj_alloc (heap_alloc_new w _))) Tryd.underlying91 rfl Tryd_sizeForm) rfl ⟨rfl, by first | exact form1 w _ | exact form2 w _ _ | exact form3 w _ _ _⟩
set_option maxRecDepth 20000 in
set_option maxHeartbeats 2000000 in
theorem FormOf_44 (w : World) : Calls Tryd.prog 38 #[.int .i64 44] w (FormTo 44 w) := by
  go_enter Tryd.func38, Tryd.ntmps38
  go_wp2_with fail
  all_goals go_region
  all_goals go_wp2
  all_goals refine bodyPost_ret (results_cell_row rfl _ _ w.heap.size 91 #[.int .u8 82, .int .u32 51, .int .u32 7, .int .u32 0] (0, 0) _ rfl (by first | exact heap_alloc_new w _ | exact obj_alloc (heap_alloc_new w _) | exact obj_alloc (obj_alloc (heap_alloc_new w _))) Tryd.underlying91 rfl Tryd_sizeForm) rfl ⟨rfl, by first | exact form1 w _ | exact form2 w _ _ | exact form3 w _ _ _⟩
set_option maxRecDepth 20000 in
set_option maxHeartbeats 2000000 in
theorem FormOf_45 (w : World) : Calls Tryd.prog 38 #[.int .i64 45] w (FormTo 45 w) := by
  go_enter Tryd.func38, Tryd.ntmps38
  go_wp2_with fail
  all_goals go_region
  all_goals go_wp2
  all_goals refine bodyPost_ret (results_cell_row rfl _ _ w.heap.size 91 #[.int .u8 82, .int .u32 59, .int .u32 0, .int .u32 0] (0, 0) _ rfl (by first | exact heap_alloc_new w _ | exact obj_alloc (heap_alloc_new w _) | exact obj_alloc (obj_alloc (heap_alloc_new w _))) Tryd.underlying91 rfl Tryd_sizeForm) rfl ⟨rfl, by first | exact form1 w _ | exact form2 w _ _ | exact form3 w _ _ _⟩
set_option maxRecDepth 20000 in
set_option maxHeartbeats 2000000 in
theorem FormOf_46 (w : World) : Calls Tryd.prog 38 #[.int .i64 46] w (FormTo 46 w) := by
  go_enter Tryd.func38, Tryd.ntmps38
  go_wp2_with fail
  all_goals go_region
  all_goals go_wp2
  all_goals refine bodyPost_ret (results_cell_row rfl _ _ w.heap.size 91 #[.int .u8 82, .int .u32 59, .int .u32 0, .int .u32 32] (0, 0) _ rfl (by first | exact heap_alloc_new w _ | exact obj_alloc (heap_alloc_new w _) | exact obj_alloc (obj_alloc (heap_alloc_new w _))) Tryd.underlying91 rfl Tryd_sizeForm) rfl ⟨rfl, by first | exact form1 w _ | exact form2 w _ _ | exact form3 w _ _ _⟩
set_option maxRecDepth 20000 in
set_option maxHeartbeats 2000000 in
theorem FormOf_47 (w : World) : Calls Tryd.prog 38 #[.int .i64 47] w (FormTo 47 w) := by
  go_enter Tryd.func38, Tryd.ntmps38
  go_wp2_with fail
  all_goals go_region
  all_goals go_wp2
  all_goals refine bodyPost_ret (results_cell_row rfl _ _ w.heap.size 91 #[.int .u8 82, .int .u32 59, .int .u32 1, .int .u32 0] (0, 0) _ rfl (by first | exact heap_alloc_new w _ | exact obj_alloc (heap_alloc_new w _) | exact obj_alloc (obj_alloc (heap_alloc_new w _))) Tryd.underlying91 rfl Tryd_sizeForm) rfl ⟨rfl, by first | exact form1 w _ | exact form2 w _ _ | exact form3 w _ _ _⟩
set_option maxRecDepth 20000 in
set_option maxHeartbeats 2000000 in
theorem FormOf_48 (w : World) : Calls Tryd.prog 38 #[.int .i64 48] w (FormTo 48 w) := by
  go_enter Tryd.func38, Tryd.ntmps38
  go_wp2_with fail
  all_goals go_region
  all_goals go_wp2
  all_goals refine bodyPost_ret (results_cell_row rfl _ _ w.heap.size 91 #[.int .u8 82, .int .u32 59, .int .u32 5, .int .u32 0] (0, 0) _ rfl (by first | exact heap_alloc_new w _ | exact obj_alloc (heap_alloc_new w _) | exact obj_alloc (obj_alloc (heap_alloc_new w _))) Tryd.underlying91 rfl Tryd_sizeForm) rfl ⟨rfl, by first | exact form1 w _ | exact form2 w _ _ | exact form3 w _ _ _⟩
set_option maxRecDepth 20000 in
set_option maxHeartbeats 2000000 in
theorem FormOf_49 (w : World) : Calls Tryd.prog 38 #[.int .i64 49] w (FormTo 49 w) := by
  go_enter Tryd.func38, Tryd.ntmps38
  go_wp2_with fail
  all_goals go_region
  all_goals go_wp2
  all_goals refine bodyPost_ret (results_cell_row rfl _ _ w.heap.size 91 #[.int .u8 82, .int .u32 59, .int .u32 5, .int .u32 32] (0, 0) _ rfl (by first | exact heap_alloc_new w _ | exact obj_alloc (heap_alloc_new w _) | exact obj_alloc (obj_alloc (heap_alloc_new w _))) Tryd.underlying91 rfl Tryd_sizeForm) rfl ⟨rfl, by first | exact form1 w _ | exact form2 w _ _ | exact form3 w _ _ _⟩
set_option maxRecDepth 20000 in
set_option maxHeartbeats 2000000 in
theorem FormOf_50 (w : World) : Calls Tryd.prog 38 #[.int .i64 50] w (FormTo 50 w) := by
  go_enter Tryd.func38, Tryd.ntmps38
  go_wp2
  refine bodyPost_ret (results_cell_row rfl _ _ w.heap.size 91 #[.int .u8 82, .int .u32 51, .int .u32 0, .int .u32 1] (0, 0) _ rfl (by first | exact heap_alloc_new w _ | exact obj_alloc (heap_alloc_new w _) | exact obj_alloc (obj_alloc (heap_alloc_new w _))) Tryd.underlying91 rfl Tryd_sizeForm) rfl ⟨rfl, by first | exact form1 w _ | exact form2 w _ _ | exact form3 w _ _ _⟩
set_option maxRecDepth 20000 in
set_option maxHeartbeats 2000000 in
theorem FormOf_51 (w : World) : Calls Tryd.prog 38 #[.int .i64 51] w (FormTo 51 w) := by
  go_enter Tryd.func38, Tryd.ntmps38
  go_wp2
  refine bodyPost_ret (results_cell_row rfl _ _ w.heap.size 91 #[.int .u8 82, .int .u32 51, .int .u32 1, .int .u32 1] (0, 0) _ rfl (by first | exact heap_alloc_new w _ | exact obj_alloc (heap_alloc_new w _) | exact obj_alloc (obj_alloc (heap_alloc_new w _))) Tryd.underlying91 rfl Tryd_sizeForm) rfl ⟨rfl, by first | exact form1 w _ | exact form2 w _ _ | exact form3 w _ _ _⟩
set_option maxRecDepth 20000 in
set_option maxHeartbeats 2000000 in
theorem FormOf_52 (w : World) : Calls Tryd.prog 38 #[.int .i64 52] w (FormTo 52 w) := by
  go_enter Tryd.func38, Tryd.ntmps38
  go_wp2
  refine bodyPost_ret (results_cell_row rfl _ _ w.heap.size 91 #[.int .u8 82, .int .u32 51, .int .u32 2, .int .u32 1] (0, 0) _ rfl (by first | exact heap_alloc_new w _ | exact obj_alloc (heap_alloc_new w _) | exact obj_alloc (obj_alloc (heap_alloc_new w _))) Tryd.underlying91 rfl Tryd_sizeForm) rfl ⟨rfl, by first | exact form1 w _ | exact form2 w _ _ | exact form3 w _ _ _⟩
set_option maxRecDepth 20000 in
set_option maxHeartbeats 2000000 in
theorem FormOf_53 (w : World) : Calls Tryd.prog 38 #[.int .i64 53] w (FormTo 53 w) := by
  go_enter Tryd.func38, Tryd.ntmps38
  go_wp2
  refine bodyPost_ret (results_cell_row rfl _ _ w.heap.size 91 #[.int .u8 82, .int .u32 51, .int .u32 3, .int .u32 1] (0, 0) _ rfl (by first | exact heap_alloc_new w _ | exact obj_alloc (heap_alloc_new w _) | exact obj_alloc (obj_alloc (heap_alloc_new w _))) Tryd.underlying91 rfl Tryd_sizeForm) rfl ⟨rfl, by first | exact form1 w _ | exact form2 w _ _ | exact form3 w _ _ _⟩
set_option maxRecDepth 20000 in
set_option maxHeartbeats 2000000 in
theorem FormOf_54 (w : World) : Calls Tryd.prog 38 #[.int .i64 54] w (FormTo 54 w) := by
  go_enter Tryd.func38, Tryd.ntmps38
  go_wp2
  refine bodyPost_ret (results_cell_row rfl _ _ w.heap.size 91 #[.int .u8 82, .int .u32 51, .int .u32 4, .int .u32 1] (0, 0) _ rfl (by first | exact heap_alloc_new w _ | exact obj_alloc (heap_alloc_new w _) | exact obj_alloc (obj_alloc (heap_alloc_new w _))) Tryd.underlying91 rfl Tryd_sizeForm) rfl ⟨rfl, by first | exact form1 w _ | exact form2 w _ _ | exact form3 w _ _ _⟩
set_option maxRecDepth 20000 in
set_option maxHeartbeats 2000000 in
theorem FormOf_55 (w : World) : Calls Tryd.prog 38 #[.int .i64 55] w (FormTo 55 w) := by
  go_enter Tryd.func38, Tryd.ntmps38
  go_wp2
  refine bodyPost_ret (results_cell_row rfl _ _ w.heap.size 91 #[.int .u8 82, .int .u32 51, .int .u32 5, .int .u32 1] (0, 0) _ rfl (by first | exact heap_alloc_new w _ | exact obj_alloc (heap_alloc_new w _) | exact obj_alloc (obj_alloc (heap_alloc_new w _))) Tryd.underlying91 rfl Tryd_sizeForm) rfl ⟨rfl, by first | exact form1 w _ | exact form2 w _ _ | exact form3 w _ _ _⟩
set_option maxRecDepth 20000 in
set_option maxHeartbeats 2000000 in
theorem FormOf_56 (w : World) : Calls Tryd.prog 38 #[.int .i64 56] w (FormTo 56 w) := by
  go_enter Tryd.func38, Tryd.ntmps38
  go_wp2
  refine bodyPost_ret (results_cell_row rfl _ _ w.heap.size 91 #[.int .u8 82, .int .u32 51, .int .u32 6, .int .u32 1] (0, 0) _ rfl (by first | exact heap_alloc_new w _ | exact obj_alloc (heap_alloc_new w _) | exact obj_alloc (obj_alloc (heap_alloc_new w _))) Tryd.underlying91 rfl Tryd_sizeForm) rfl ⟨rfl, by first | exact form1 w _ | exact form2 w _ _ | exact form3 w _ _ _⟩
set_option maxRecDepth 20000 in
set_option maxHeartbeats 2000000 in
theorem FormOf_57 (w : World) : Calls Tryd.prog 38 #[.int .i64 57] w (FormTo 57 w) := by
  go_enter Tryd.func38, Tryd.ntmps38
  go_wp2
  refine bodyPost_ret (results_cell_row rfl _ _ w.heap.size 91 #[.int .u8 82, .int .u32 51, .int .u32 7, .int .u32 1] (0, 0) _ rfl (by first | exact heap_alloc_new w _ | exact obj_alloc (heap_alloc_new w _) | exact obj_alloc (obj_alloc (heap_alloc_new w _))) Tryd.underlying91 rfl Tryd_sizeForm) rfl ⟨rfl, by first | exact form1 w _ | exact form2 w _ _ | exact form3 w _ _ _⟩
set_option maxRecDepth 20000 in
set_option maxHeartbeats 2000000 in
theorem FormOf_58 (w : World) : Calls Tryd.prog 38 #[.int .i64 58] w (FormTo 58 w) := by
  go_enter Tryd.func38, Tryd.ntmps38
  go_wp2
  refine bodyPost_ret (results_cell_row rfl _ _ w.heap.size 91 #[.int .u8 82, .int .u32 59, .int .u32 0, .int .u32 1] (0, 0) _ rfl (by first | exact heap_alloc_new w _ | exact obj_alloc (heap_alloc_new w _) | exact obj_alloc (obj_alloc (heap_alloc_new w _))) Tryd.underlying91 rfl Tryd_sizeForm) rfl ⟨rfl, by first | exact form1 w _ | exact form2 w _ _ | exact form3 w _ _ _⟩
set_option maxRecDepth 20000 in
set_option maxHeartbeats 2000000 in
theorem FormOf_59 (w : World) : Calls Tryd.prog 38 #[.int .i64 59] w (FormTo 59 w) := by
  go_enter Tryd.func38, Tryd.ntmps38
  go_wp2
  refine bodyPost_ret (results_cell_row rfl _ _ w.heap.size 91 #[.int .u8 82, .int .u32 59, .int .u32 4, .int .u32 1] (0, 0) _ rfl (by first | exact heap_alloc_new w _ | exact obj_alloc (heap_alloc_new w _) | exact obj_alloc (obj_alloc (heap_alloc_new w _))) Tryd.underlying91 rfl Tryd_sizeForm) rfl ⟨rfl, by first | exact form1 w _ | exact form2 w _ _ | exact form3 w _ _ _⟩
set_option maxRecDepth 20000 in
set_option maxHeartbeats 2000000 in
theorem FormOf_60 (w : World) : Calls Tryd.prog 38 #[.int .i64 60] w (FormTo 60 w) := by
  go_enter Tryd.func38, Tryd.ntmps38
  go_wp2
  refine bodyPost_ret (results_cell_row rfl _ _ w.heap.size 91 #[.int .u8 82, .int .u32 59, .int .u32 5, .int .u32 1] (0, 0) _ rfl (by first | exact heap_alloc_new w _ | exact obj_alloc (heap_alloc_new w _) | exact obj_alloc (obj_alloc (heap_alloc_new w _))) Tryd.underlying91 rfl Tryd_sizeForm) rfl ⟨rfl, by first | exact form1 w _ | exact form2 w _ _ | exact form3 w _ _ _⟩
set_option maxRecDepth 20000 in
set_option maxHeartbeats 2000000 in
theorem FormOf_61 (w : World) : Calls Tryd.prog 38 #[.int .i64 61] w (FormTo 61 w) := by
  go_enter Tryd.func38, Tryd.ntmps38
  go_wp2
  refine bodyPost_ret (results_cell_row rfl _ _ w.heap.size 91 #[.int .u8 82, .int .u32 59, .int .u32 6, .int .u32 1] (0, 0) _ rfl (by first | exact heap_alloc_new w _ | exact obj_alloc (heap_alloc_new w _) | exact obj_alloc (obj_alloc (heap_alloc_new w _))) Tryd.underlying91 rfl Tryd_sizeForm) rfl ⟨rfl, by first | exact form1 w _ | exact form2 w _ _ | exact form3 w _ _ _⟩
set_option maxRecDepth 20000 in
set_option maxHeartbeats 2000000 in
theorem FormOf_62 (w : World) : Calls Tryd.prog 38 #[.int .i64 62] w (FormTo 62 w) := by
  go_enter Tryd.func38, Tryd.ntmps38
  go_wp2
  refine bodyPost_ret (results_cell_row rfl _ _ w.heap.size 91 #[.int .u8 82, .int .u32 59, .int .u32 7, .int .u32 1] (0, 0) _ rfl (by first | exact heap_alloc_new w _ | exact obj_alloc (heap_alloc_new w _) | exact obj_alloc (obj_alloc (heap_alloc_new w _))) Tryd.underlying91 rfl Tryd_sizeForm) rfl ⟨rfl, by first | exact form1 w _ | exact form2 w _ _ | exact form3 w _ _ _⟩
set_option maxRecDepth 20000 in
set_option maxHeartbeats 2000000 in
theorem FormOf_63 (w : World) : Calls Tryd.prog 38 #[.int .i64 63] w (FormTo 63 w) := by
  go_enter Tryd.func38, Tryd.ntmps38
  go_wp2
  refine bodyPost_ret (results_cell_row rfl _ _ w.heap.size 91 #[.int .u8 78, .int .u32 15, .int .u32 0, .int .u32 0] (0, 0) _ rfl (by first | exact heap_alloc_new w _ | exact obj_alloc (heap_alloc_new w _) | exact obj_alloc (obj_alloc (heap_alloc_new w _))) Tryd.underlying91 rfl Tryd_sizeForm) rfl ⟨rfl, by first | exact form1 w _ | exact form2 w _ _ | exact form3 w _ _ _⟩
set_option maxRecDepth 20000 in
set_option maxHeartbeats 2000000 in
theorem FormOf_64 (w : World) : Calls Tryd.prog 38 #[.int .i64 64] w (FormTo 64 w) := by
  go_enter Tryd.func38, Tryd.ntmps38
  go_wp2
  refine bodyPost_ret (results_cell_row rfl _ _ w.heap.size 91 #[.int .u8 78, .int .u32 115, .int .u32 0, .int .u32 0] (0, 0) _ rfl (by first | exact heap_alloc_new w _ | exact obj_alloc (heap_alloc_new w _) | exact obj_alloc (obj_alloc (heap_alloc_new w _))) Tryd.underlying91 rfl Tryd_sizeForm) rfl ⟨rfl, by first | exact form1 w _ | exact form2 w _ _ | exact form3 w _ _ _⟩
set_option maxRecDepth 20000 in
set_option maxHeartbeats 2000000 in
theorem FormOf_65 (w : World) : Calls Tryd.prog 38 #[.int .i64 65] w (FormTo 65 w) := by
  go_enter Tryd.func38, Tryd.ntmps38
  go_wp2
  refine bodyPost_ret (results_cell_row rfl _ _ w.heap.size 91 #[.int .u8 78, .int .u32 1048691, .int .u32 0, .int .u32 0] (0, 0) _ rfl (by first | exact heap_alloc_new w _ | exact obj_alloc (heap_alloc_new w _) | exact obj_alloc (obj_alloc (heap_alloc_new w _))) Tryd.underlying91 rfl Tryd_sizeForm) rfl ⟨rfl, by first | exact form1 w _ | exact form2 w _ _ | exact form3 w _ _ _⟩
end Go.Proofs
