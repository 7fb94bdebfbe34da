/- patinaref01.FormOf of any number; Has, reg, imm, Right. -/
import Derived.Test.YtemngapfnkokiaaDoorFormA
import Derived.Test.YtemngapfnkokiaaDoorFormB
namespace Go.Proofs
open Go Go.RowKit Go.Pat
set_option maxRecDepth 20000 in
set_option maxHeartbeats 2000000 in
theorem FormOf_low (z : Int) (hz : z ≤ 0) (w : World) : Calls Tryd.prog 38 #[.int .i64 z] w (FormTo z w) := by
  have HZ := Lib.hid (show formZ z = (0, 0, 0, 0) by unfold formZ formR; rw [show z.toNat = 0 by omega]; rfl)
  have e1 : (z == 1) = false := by simp; omega
  have e2 : (z == 2) = false := by simp; omega
  have e3 : (z == 3) = false := by simp; omega
  have e4 : (z == 4) = false := by simp; omega
  have e31 : (z == 31) = false := by simp; omega
  have e63 : (z == 63) = false := by simp; omega
  have e64 : (z == 64) = false := by simp; omega
  have e65 : (z == 65) = false := by simp; omega
  have l5 : decide (5 ≤ z) = false := decide_eq_false (by omega)
  have l11 : decide (11 ≤ z) = false := decide_eq_false (by omega)
  have l18 : decide (18 ≤ z) = false := decide_eq_false (by omega)
  have l22 : decide (22 ≤ z) = false := decide_eq_false (by omega)
  have l28 : decide (28 ≤ z) = false := decide_eq_false (by omega)
  have l32 : decide (32 ≤ z) = false := decide_eq_false (by omega)
  have l35 : decide (35 ≤ z) = false := decide_eq_false (by omega)
  have l45 : decide (45 ≤ z) = false := decide_eq_false (by omega)
  have l50 : decide (50 ≤ z) = false := decide_eq_false (by omega)
  have l58 : decide (58 ≤ z) = false := decide_eq_false (by omega)
  clear hz
  go_enter Tryd.func38, Tryd.ntmps38
  go_wp2
  refine bodyPost_ret (results_cell_row rfl _ _ w.heap.size 91 #[.int .u8 0, .int .u32 0, .int .u32 0, .int .u32 0] (0, 0) _ rfl (heap_alloc_new w _) Tryd.underlying91 rfl Tryd_sizeForm) rfl ⟨by rw [HZ.out]; rfl, form1 w _⟩
set_option maxRecDepth 20000 in
set_option maxHeartbeats 2000000 in
theorem FormOf_high (z : Int) (hz : 65 < z) (w : World) : Calls Tryd.prog 38 #[.int .i64 z] w (FormTo z w) := by
  have HZ := Lib.hid (show formZ z = (0, 0, 0, 0) by unfold formZ formR; rw [List.getD_eq_getElem?_getD, List.getElem?_eq_none (show formsT.length ≤ z.toNat by show 66 ≤ _; omega)]; rfl)
  have e1 : (z == 1) = false := by simp; omega
  have e2 : (z == 2) = false := by simp; omega
  have e3 : (z == 3) = false := by simp; omega
  have e4 : (z == 4) = false := by simp; omega
  have e31 : (z == 31) = false := by simp; omega
  have e63 : (z == 63) = false := by simp; omega
  have e64 : (z == 64) = false := by simp; omega
  have e65 : (z == 65) = false := by simp; omega
  have l5 : decide (5 ≤ z) = true := decide_eq_true (by omega)
  have h10 : decide (z ≤ 10) = false := decide_eq_false (by omega)
  have l11 : decide (11 ≤ z) = true := decide_eq_true (by omega)
  have h17 : decide (z ≤ 17) = false := decide_eq_false (by omega)
  have l18 : decide (18 ≤ z) = true := decide_eq_true (by omega)
  have h21 : decide (z ≤ 21) = false := decide_eq_false (by omega)
  have l22 : decide (22 ≤ z) = true := decide_eq_true (by omega)
  have h27 : decide (z ≤ 27) = false := decide_eq_false (by omega)
  have l28 : decide (28 ≤ z) = true := decide_eq_true (by omega)
  have h30 : decide (z ≤ 30) = false := decide_eq_false (by omega)
  have l32 : decide (32 ≤ z) = true := decide_eq_true (by omega)
  have h34 : decide (z ≤ 34) = false := decide_eq_false (by omega)
  have l35 : decide (35 ≤ z) = true := decide_eq_true (by omega)
  have h44 : decide (z ≤ 44) = false := decide_eq_false (by omega)
  have l45 : decide (45 ≤ z) = true := decide_eq_true (by omega)
  have h49 : decide (z ≤ 49) = false := decide_eq_false (by omega)
  have l50 : decide (50 ≤ z) = true := decide_eq_true (by omega)
  have h57 : decide (z ≤ 57) = false := decide_eq_false (by omega)
  have l58 : decide (58 ≤ z) = true := decide_eq_true (by omega)
  have h62 : decide (z ≤ 62) = false := decide_eq_false (by omega)
  clear hz
  go_enter Tryd.func38, Tryd.ntmps38
  go_wp2
  refine bodyPost_ret (results_cell_row rfl _ _ w.heap.size 91 #[.int .u8 0, .int .u32 0, .int .u32 0, .int .u32 0] (0, 0) _ rfl (heap_alloc_new w _) Tryd.underlying91 rfl Tryd_sizeForm) rfl ⟨by rw [HZ.out]; rfl, form1 w _⟩
theorem FormOf_any (z : Int) (w : World) : Calls Tryd.prog 38 #[.int .i64 z] w (FormTo z w) := by
  by_cases h0 : z ≤ 0
  · exact FormOf_low z h0 w
  by_cases h1 : 65 < z
  · exact FormOf_high z h1 w
  obtain ⟨op, rfl⟩ : ∃ op : Nat, z = op := ⟨z.toNat, by omega⟩
  have ho : op = 1 ∨ op = 2 ∨ op = 3 ∨ op = 4 ∨ op = 5 ∨ op = 6 ∨ op = 7 ∨ op = 8 ∨ op = 9 ∨ op = 10 ∨ op = 11 ∨ op = 12 ∨ op = 13 ∨ op = 14 ∨ op = 15 ∨ op = 16 ∨ op = 17 ∨ op = 18 ∨ op = 19 ∨ op = 20 ∨ op = 21 ∨ op = 22 ∨ op = 23 ∨ op = 24 ∨ op = 25 ∨ op = 26 ∨ op = 27 ∨ op = 28 ∨ op = 29 ∨ op = 30 ∨ op = 31 ∨ op = 32 ∨ op = 33 ∨ op = 34 ∨ op = 35 ∨ op = 36 ∨ op = 37 ∨ op = 38 ∨ op = 39 ∨ op = 40 ∨ op = 41 ∨ op = 42 ∨ op = 43 ∨ op = 44 ∨ op = 45 ∨ op = 46 ∨ op = 47 ∨ op = 48 ∨ op = 49 ∨ op = 50 ∨ op = 51 ∨ op = 52 ∨ op = 53 ∨ op = 54 ∨ op = 55 ∨ op = 56 ∨ op = 57 ∨ op = 58 ∨ op = 59 ∨ op = 60 ∨ op = 61 ∨ op = 62 ∨ op = 63 ∨ op = 64 ∨ op = 65 := by omega
  clear h0 h1
  rcases ho with rfl | rfl | rfl | rfl | rfl | rfl | rfl | rfl | rfl | rfl | rfl | rfl | rfl | rfl | rfl | rfl | rfl | rfl | rfl | rfl | rfl | rfl | rfl | rfl | rfl | rfl | rfl | rfl | rfl | rfl | rfl | rfl | rfl | rfl | rfl | rfl | rfl | rfl | rfl | rfl | rfl | rfl | rfl | rfl | rfl | rfl | rfl | rfl | rfl | rfl | rfl | rfl | rfl | rfl | rfl | rfl | rfl | rfl | rfl | rfl | rfl | rfl | rfl | rfl | rfl
  · exact FormOf_1 w
  · exact FormOf_2 w
  · exact FormOf_3 w
  · exact FormOf_4 w
  · exact FormOf_5 w
  · exact FormOf_6 w
  · exact FormOf_7 w
  · exact FormOf_8 w
  · exact FormOf_9 w
  · exact FormOf_10 w
  · exact FormOf_11 w
  · exact FormOf_12 w
  · exact FormOf_13 w
  · exact FormOf_14 w
  · exact FormOf_15 w
  · exact FormOf_16 w
  · exact FormOf_17 w
  · exact FormOf_18 w
  · exact FormOf_19 w
  · exact FormOf_20 w
  · exact FormOf_21 w
  · exact FormOf_22 w
  · exact FormOf_23 w
  · exact FormOf_24 w
  · exact FormOf_25 w
  · exact FormOf_26 w
  · exact FormOf_27 w
  · exact FormOf_28 w
  · exact FormOf_29 w
  · exact FormOf_30 w
  · exact FormOf_31 w
  · exact FormOf_32 w
  · exact FormOf_33 w
  · exact FormOf_34 w
  · exact FormOf_35 w
  · exact FormOf_36 w
  · exact FormOf_37 w
  · exact FormOf_38 w
  · exact FormOf_39 w
  · exact FormOf_40 w
  · exact FormOf_41 w
  · exact FormOf_42 w
  · exact FormOf_43 w
  · exact FormOf_44 w
  · exact FormOf_45 w
  · exact FormOf_46 w
  · exact FormOf_47 w
  · exact FormOf_48 w
  · exact FormOf_49 w
  · exact FormOf_50 w
  · exact FormOf_51 w
  · exact FormOf_52 w
  · exact FormOf_53 w
  · exact FormOf_54 w
  · exact FormOf_55 w
  · exact FormOf_56 w
  · exact FormOf_57 w
  · exact FormOf_58 w
  · exact FormOf_59 w
  · exact FormOf_60 w
  · exact FormOf_61 w
  · exact FormOf_62 w
  · exact FormOf_63 w
  · exact FormOf_64 w
  · exact FormOf_65 w
end Go.Proofs
