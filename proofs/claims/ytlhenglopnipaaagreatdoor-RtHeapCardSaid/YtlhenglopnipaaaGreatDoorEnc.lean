/- patina/rv.Encode: an instruction's word, as patinaref01.Word says. -/
import Derived.Test.YtlhenglopnipaaaGreatDoorRvc
import Derived.Test.YtlhenglopnipaaaGreatDoorWords
namespace Go.Pat
open Go Go.RowKit
/-- an instruction's word, 0 if it is not right. -/
def encZ (op rd a b n : Int) : Nat := if rightI op rd a b n then rwordN (formZ op).1 (formZ op).2.1 (formZ op).2.2.1 (formZ op).2.2.2 rd.toNat a.toNat b.toNat n else 0
theorem regB_rng {r : Int} {nm : Bool} (h : regB r nm = true) : 0 ≤ r ∧ r < 32 := by
  cases nm
  · simp [regB] at h; omega
  · simp [regB] at h; omega
theorem rightI_rng {op rd a b n : Int} (h : rightI op rd a b n = true) : 1 ≤ op ∧ op < 66 ∧ (0 ≤ rd ∧ rd < 32) ∧ (0 ≤ a ∧ a < 32) ∧ (0 ≤ b ∧ b < 32) := by
  by_cases ho : op < 1 ∨ 65 < op
  · rw [Go.Proofs.rightI_out op rd a b n ho] at h; cases h
  · unfold rightI at h
    simp only [Bool.and_eq_true] at h
    exact ⟨by omega, by omega, regB_rng h.1.1.1.2, regB_rng h.1.1.2, regB_rng h.1.2⟩
theorem row_form (op : Nat) (h : op < 66) : rvRow op = (if (formR op).1 = 104 then 72 else (formR op).1, (formR op).2.1, (formR op).2.2.1, (formR op).2.2.2) :=
  (show ∀ k, k < 66 → rvRow k = (if (formR k).1 = 104 then 72 else (formR k).1, (formR k).2.1, (formR k).2.2.1, (formR k).2.2.2) by decide) op h
theorem rightI_imm {op : Nat} {rd a b n : Int} (h : rightI op rd a b n = true) : immB1 (formR op).1 n = true := by
  unfold rightI formZ at h
  rw [Int.toNat_natCast] at h
  simp only [Bool.and_eq_true] at h
  exact h.2
theorem bitM_0_12 (n : Int) (m : Nat) (hm : n % 4294967296 = (m : Int)) : bitI n 0 12 = m / 2 ^ 0 % 2 ^ 12 := by
  unfold bitI
  omega
theorem bitM_0_5 (n : Int) (m : Nat) (hm : n % 4294967296 = (m : Int)) : bitI n 0 5 = m / 2 ^ 0 % 2 ^ 5 := by
  unfold bitI
  omega
theorem bitM_5_7 (n : Int) (m : Nat) (hm : n % 4294967296 = (m : Int)) : bitI n 5 7 = m / 2 ^ 5 % 2 ^ 7 := by
  unfold bitI
  omega
theorem bitM_11_1 (n : Int) (m : Nat) (hm : n % 4294967296 = (m : Int)) : bitI n 11 1 = m / 2 ^ 11 % 2 ^ 1 := by
  unfold bitI
  omega
theorem bitM_1_4 (n : Int) (m : Nat) (hm : n % 4294967296 = (m : Int)) : bitI n 1 4 = m / 2 ^ 1 % 2 ^ 4 := by
  unfold bitI
  omega
theorem bitM_5_6 (n : Int) (m : Nat) (hm : n % 4294967296 = (m : Int)) : bitI n 5 6 = m / 2 ^ 5 % 2 ^ 6 := by
  unfold bitI
  omega
theorem bitM_12_1 (n : Int) (m : Nat) (hm : n % 4294967296 = (m : Int)) : bitI n 12 1 = m / 2 ^ 12 % 2 ^ 1 := by
  unfold bitI
  omega
theorem bitM_0_20 (n : Int) (m : Nat) (hm : n % 4294967296 = (m : Int)) : bitI n 0 20 = m / 2 ^ 0 % 2 ^ 20 := by
  unfold bitI
  omega
theorem bitM_12_8 (n : Int) (m : Nat) (hm : n % 4294967296 = (m : Int)) : bitI n 12 8 = m / 2 ^ 12 % 2 ^ 8 := by
  unfold bitI
  omega
theorem bitM_1_10 (n : Int) (m : Nat) (hm : n % 4294967296 = (m : Int)) : bitI n 1 10 = m / 2 ^ 1 % 2 ^ 10 := by
  unfold bitI
  omega
theorem bitM_20_1 (n : Int) (m : Nat) (hm : n % 4294967296 = (m : Int)) : bitI n 20 1 = m / 2 ^ 20 % 2 ^ 1 := by
  unfold bitI
  omega
end Go.Pat
namespace Go.Proofs
open Go Go.RowKit Go.Pat
theorem m_lt {n : Int} {m : Nat} (hm : n % 4294967296 = (m : Int)) : m < 4294967296 := by omega
def EncTo (z : Nat) (w : World) (e : Ending) (w' : World) : Prop := e = .returned (.tuple #[.int .u32 (z : Int), .int .i64 0]) ∧ Below w.heap.size w w'
theorem rvb_0_12_20 (m : Nat) (hm : m < 4294967296) (w : World) : Calls Tryz.prog 88 #[.int .u32 (m : Int), .int .u64 0, .int .u64 12, .int .u64 20] w fun e w' => e = .returned (.int .u32 ((bitsN m 0 12 20 : Nat) : Int)) ∧ w' = w := rvBits_any m 0 12 20 hm (by decide) (by decide) (by decide) w
theorem rvb_0_6_20 (m : Nat) (hm : m < 4294967296) (w : World) : Calls Tryz.prog 88 #[.int .u32 (m : Int), .int .u64 0, .int .u64 6, .int .u64 20] w fun e w' => e = .returned (.int .u32 ((bitsN m 0 6 20 : Nat) : Int)) ∧ w' = w := rvBits_any m 0 6 20 hm (by decide) (by decide) (by decide) w
theorem rvb_0_5_7 (m : Nat) (hm : m < 4294967296) (w : World) : Calls Tryz.prog 88 #[.int .u32 (m : Int), .int .u64 0, .int .u64 5, .int .u64 7] w fun e w' => e = .returned (.int .u32 ((bitsN m 0 5 7 : Nat) : Int)) ∧ w' = w := rvBits_any m 0 5 7 hm (by decide) (by decide) (by decide) w
theorem rvb_5_7_25 (m : Nat) (hm : m < 4294967296) (w : World) : Calls Tryz.prog 88 #[.int .u32 (m : Int), .int .u64 5, .int .u64 7, .int .u64 25] w fun e w' => e = .returned (.int .u32 ((bitsN m 5 7 25 : Nat) : Int)) ∧ w' = w := rvBits_any m 5 7 25 hm (by decide) (by decide) (by decide) w
theorem rvb_11_1_7 (m : Nat) (hm : m < 4294967296) (w : World) : Calls Tryz.prog 88 #[.int .u32 (m : Int), .int .u64 11, .int .u64 1, .int .u64 7] w fun e w' => e = .returned (.int .u32 ((bitsN m 11 1 7 : Nat) : Int)) ∧ w' = w := rvBits_any m 11 1 7 hm (by decide) (by decide) (by decide) w
theorem rvb_1_4_8 (m : Nat) (hm : m < 4294967296) (w : World) : Calls Tryz.prog 88 #[.int .u32 (m : Int), .int .u64 1, .int .u64 4, .int .u64 8] w fun e w' => e = .returned (.int .u32 ((bitsN m 1 4 8 : Nat) : Int)) ∧ w' = w := rvBits_any m 1 4 8 hm (by decide) (by decide) (by decide) w
theorem rvb_5_6_25 (m : Nat) (hm : m < 4294967296) (w : World) : Calls Tryz.prog 88 #[.int .u32 (m : Int), .int .u64 5, .int .u64 6, .int .u64 25] w fun e w' => e = .returned (.int .u32 ((bitsN m 5 6 25 : Nat) : Int)) ∧ w' = w := rvBits_any m 5 6 25 hm (by decide) (by decide) (by decide) w
theorem rvb_12_1_31 (m : Nat) (hm : m < 4294967296) (w : World) : Calls Tryz.prog 88 #[.int .u32 (m : Int), .int .u64 12, .int .u64 1, .int .u64 31] w fun e w' => e = .returned (.int .u32 ((bitsN m 12 1 31 : Nat) : Int)) ∧ w' = w := rvBits_any m 12 1 31 hm (by decide) (by decide) (by decide) w
theorem rvb_0_20_12 (m : Nat) (hm : m < 4294967296) (w : World) : Calls Tryz.prog 88 #[.int .u32 (m : Int), .int .u64 0, .int .u64 20, .int .u64 12] w fun e w' => e = .returned (.int .u32 ((bitsN m 0 20 12 : Nat) : Int)) ∧ w' = w := rvBits_any m 0 20 12 hm (by decide) (by decide) (by decide) w
theorem rvb_12_8_12 (m : Nat) (hm : m < 4294967296) (w : World) : Calls Tryz.prog 88 #[.int .u32 (m : Int), .int .u64 12, .int .u64 8, .int .u64 12] w fun e w' => e = .returned (.int .u32 ((bitsN m 12 8 12 : Nat) : Int)) ∧ w' = w := rvBits_any m 12 8 12 hm (by decide) (by decide) (by decide) w
theorem rvb_11_1_20 (m : Nat) (hm : m < 4294967296) (w : World) : Calls Tryz.prog 88 #[.int .u32 (m : Int), .int .u64 11, .int .u64 1, .int .u64 20] w fun e w' => e = .returned (.int .u32 ((bitsN m 11 1 20 : Nat) : Int)) ∧ w' = w := rvBits_any m 11 1 20 hm (by decide) (by decide) (by decide) w
theorem rvb_1_10_21 (m : Nat) (hm : m < 4294967296) (w : World) : Calls Tryz.prog 88 #[.int .u32 (m : Int), .int .u64 1, .int .u64 10, .int .u64 21] w fun e w' => e = .returned (.int .u32 ((bitsN m 1 10 21 : Nat) : Int)) ∧ w' = w := rvBits_any m 1 10 21 hm (by decide) (by decide) (by decide) w
theorem rvb_20_1_31 (m : Nat) (hm : m < 4294967296) (w : World) : Calls Tryz.prog 88 #[.int .u32 (m : Int), .int .u64 20, .int .u64 1, .int .u64 31] w fun e w' => e = .returned (.int .u32 ((bitsN m 20 1 31 : Nat) : Int)) ∧ w' = w := rvBits_any m 20 1 31 hm (by decide) (by decide) (by decide) w
set_option maxRecDepth 20000 in
set_option maxHeartbeats 4000000 in
theorem enc_82 (op d a b : Nat) (n : Int) (hop : op < 66) (hd : d < 32) (ha : a < 32) (hb : b < 32) (l c f3 f7 : Nat) (hrow : rvRow op = (82, c, f3, f7)) (hbd : c < 4294967296 ∧ f3 < 8 ∧ f7 < 64) (hl : l = 82) (hr : rightI (op : Int) d a b n = true) (hn : True) (h1 : 1 ≤ op) (w : World) (hR : RvRows w) :
    Calls Tryz.prog 63 #[.agg #[.int .i64 (op : Int), .int .i64 (d : Int), .int .i64 (a : Int), .int .i64 (b : Int), .int .i64 n]] w (EncTo (rwordN l c f3 f7 d a b n) w) := by
  have HCk := Lib.hid (fun W (hW : RvRows W) => rvCheck_any (op : Int) d a b n W hW)
  unfold CheckTo insE at HCk
  rw [hr] at HCk
  have HRo := Lib.hid (fun W (hW : RvRows W) => rvOf_in op W hW h1 hop)
  unfold rowV at HRo
  rw [Int.toNat_natCast, hrow] at HRo
  obtain ⟨hc, h3, h7⟩ := hbd
  subst hl
  clear hrow hr
  obtain ⟨m, hm⟩ : ∃ m : Nat, n % 4294967296 = (m : Int) := ⟨(n % 4294967296).toNat, by omega⟩
  have hml := m_lt hm
  have HH := Lib.hid (headI c f3 d a b hc h3 hd ha hb)
  have hHl := headN_lt c f3 d a b hc h3 hd ha hb
  obtain ⟨H, hH⟩ : ∃ H, H = headN c f3 d a b := ⟨_, rfl⟩
  rw [← hH] at HH hHl
  obtain ⟨z, hz0⟩ : ∃ z, z = rwordN 82 c f3 f7 d a b n := ⟨_, rfl⟩
  rw [← hz0]
  unfold rwordN at hz0
  rw [← hH] at hz0
  have HZ0 := Lib.hid hz0
  have HN := Lib.hid hn
  clear hH hz0 hn
  have hB0 : Below w.heap.size w (w.alloc (.cells #[.int .i64 op, .int .i64 d, .int .i64 a, .int .i64 b, .int .i64 n] 26)) := form1 w _
  have hR0 := hR.below hB0
  go_enter Tryz.func63, Tryz.ntmps63
  go_wp2_with fail
  refine Calls.mono (HCk.out _ hR0) ?_
  rintro e w1 ⟨rfl, hB1⟩
  have hR1 := hR0.below hB1
  have hBw := hB0.trans (hB1.mono hB0.size)
  have hb1 : w1.heap[w.heap.size]? = some (.cells #[.int .i64 op, .int .i64 d, .int .i64 a, .int .i64 b, .int .i64 n] 26 (0, 0)) := (hB1.block _ (by rw [World.size_alloc]; omega)).trans (heap_alloc_new w _)
  have hs1 : w.heap.size < w1.heap.size := by have := hB1.size; rw [World.size_alloc] at this; omega
  have y0 : w1.cell? ⟨w.heap.size, 0, none⟩ = some (.int .i64 op) := (obj_cell hb1 0).trans rfl
  clear hR hR0
  go_wp2_with fail
  refine Calls.mono (HRo.out _ hR1) ?_
  rintro e w2 ⟨rfl, hB2⟩
  have hBx := hBw.trans (hB2.mono hBw.size)
  have hb2 := (hB2.block _ hs1).trans hb1
  have hs2 : w.heap.size < w2.heap.size := Nat.lt_of_lt_of_le hs1 hB2.size
  clear y0 hR1
  have x1 : w2.cell? ⟨w.heap.size, 1, none⟩ = some (.int .i64 d) := (obj_cell hb2 1).trans rfl
  have x2 : w2.cell? ⟨w.heap.size, 2, none⟩ = some (.int .i64 a) := (obj_cell hb2 2).trans rfl
  have x3 : w2.cell? ⟨w.heap.size, 3, none⟩ = some (.int .i64 b) := (obj_cell hb2 3).trans rfl
  have x4 : w2.cell? ⟨w.heap.size, 4, none⟩ = some (.int .i64 n) := (obj_cell hb2 4).trans rfl
  clear hb1 hb2 hB0 hB1 hB2 hBw hs1
  go_wp2
  go_ret2
  refine ⟨congrArg (fun z => Ending.returned (Value.tuple #[Value.int IntKind.u32 z, .int .i64 0])) ?_, ?_⟩
  · rw [HH.out, HZ0.out]
    simp only [Nat.reduceEqDiff, if_true, if_false, or_self]
    rw [orN H (f7 * 33554432) hHl (by omega) _ _ rfl (by omega)]
  · first | exact hBx.alloc hBx.size _ | exact bdrewN (hBx.alloc hBx.size _) _
set_option maxRecDepth 20000 in
set_option maxHeartbeats 4000000 in
theorem enc_73 (op d a b : Nat) (n : Int) (hop : op < 66) (hd : d < 32) (ha : a < 32) (hb : b < 32) (l c f3 f7 : Nat) (hrow : rvRow op = (73, c, f3, f7)) (hbd : c < 4294967296 ∧ f3 < 8 ∧ f7 < 64) (hl : l = 73) (hr : rightI (op : Int) d a b n = true) (hn : True) (h1 : 1 ≤ op) (w : World) (hR : RvRows w) :
    Calls Tryz.prog 63 #[.agg #[.int .i64 (op : Int), .int .i64 (d : Int), .int .i64 (a : Int), .int .i64 (b : Int), .int .i64 n]] w (EncTo (rwordN l c f3 f7 d a b n) w) := by
  have HCk := Lib.hid (fun W (hW : RvRows W) => rvCheck_any (op : Int) d a b n W hW)
  unfold CheckTo insE at HCk
  rw [hr] at HCk
  have HRo := Lib.hid (fun W (hW : RvRows W) => rvOf_in op W hW h1 hop)
  unfold rowV at HRo
  rw [Int.toNat_natCast, hrow] at HRo
  obtain ⟨hc, h3, h7⟩ := hbd
  subst hl
  clear hrow hr
  obtain ⟨m, hm⟩ : ∃ m : Nat, n % 4294967296 = (m : Int) := ⟨(n % 4294967296).toNat, by omega⟩
  have hml := m_lt hm
  have HH := Lib.hid (headI c f3 d a b hc h3 hd ha hb)
  have hHl := headN_lt c f3 d a b hc h3 hd ha hb
  obtain ⟨H, hH⟩ : ∃ H, H = headN c f3 d a b := ⟨_, rfl⟩
  rw [← hH] at HH hHl
  obtain ⟨z, hz0⟩ : ∃ z, z = rwordN 73 c f3 f7 d a b n := ⟨_, rfl⟩
  rw [← hz0]
  unfold rwordN at hz0
  rw [← hH] at hz0
  have HZ0 := Lib.hid hz0
  have HN := Lib.hid hn
  clear hH hz0 hn
  have hB0 : Below w.heap.size w (w.alloc (.cells #[.int .i64 op, .int .i64 d, .int .i64 a, .int .i64 b, .int .i64 n] 26)) := form1 w _
  have hR0 := hR.below hB0
  go_enter Tryz.func63, Tryz.ntmps63
  go_wp2_with fail
  refine Calls.mono (HCk.out _ hR0) ?_
  rintro e w1 ⟨rfl, hB1⟩
  have hR1 := hR0.below hB1
  have hBw := hB0.trans (hB1.mono hB0.size)
  have hb1 : w1.heap[w.heap.size]? = some (.cells #[.int .i64 op, .int .i64 d, .int .i64 a, .int .i64 b, .int .i64 n] 26 (0, 0)) := (hB1.block _ (by rw [World.size_alloc]; omega)).trans (heap_alloc_new w _)
  have hs1 : w.heap.size < w1.heap.size := by have := hB1.size; rw [World.size_alloc] at this; omega
  have y0 : w1.cell? ⟨w.heap.size, 0, none⟩ = some (.int .i64 op) := (obj_cell hb1 0).trans rfl
  clear hR hR0
  go_wp2_with fail
  refine Calls.mono (HRo.out _ hR1) ?_
  rintro e w2 ⟨rfl, hB2⟩
  have hBx := hBw.trans (hB2.mono hBw.size)
  have hb2 := (hB2.block _ hs1).trans hb1
  have hs2 : w.heap.size < w2.heap.size := Nat.lt_of_lt_of_le hs1 hB2.size
  clear y0 hR1
  have x1 : w2.cell? ⟨w.heap.size, 1, none⟩ = some (.int .i64 d) := (obj_cell hb2 1).trans rfl
  have x2 : w2.cell? ⟨w.heap.size, 2, none⟩ = some (.int .i64 a) := (obj_cell hb2 2).trans rfl
  have x3 : w2.cell? ⟨w.heap.size, 3, none⟩ = some (.int .i64 b) := (obj_cell hb2 3).trans rfl
  have x4 : w2.cell? ⟨w.heap.size, 4, none⟩ = some (.int .i64 n) := (obj_cell hb2 4).trans rfl
  clear hb1 hb2 hB0 hB1 hB2 hBw hs1
  go_wp2_with (first
    | (go_at_call 88; (with_reducible refine (rvb_0_12_20 m hml _).mono ?_); rintro e w' ⟨rfl, rfl⟩))
  go_ret2
  refine ⟨congrArg (fun z => Ending.returned (Value.tuple #[Value.int IntKind.u32 z, .int .i64 0])) ?_, ?_⟩
  · rw [HH.out, HZ0.out]
    simp only [Nat.reduceEqDiff, if_true, if_false, or_self]
    rw [bitM_0_12 n m hm]
    have e0_12 : bitsN m 0 12 20 = m / 2 ^ 0 % 2 ^ 12 * 1048576 := bitsN_eq m 0 12 20 (by omega)
    rw [e0_12]
    rw [orN H (m / 2 ^ 0 % 2 ^ 12 * 1048576) hHl (by omega) _ _ rfl rfl]
  · first | exact hBx.alloc hBx.size _ | exact bdrewN (hBx.alloc hBx.size _) _
set_option maxRecDepth 20000 in
set_option maxHeartbeats 4000000 in
theorem enc_72 (op d a b : Nat) (n : Int) (hop : op < 66) (hd : d < 32) (ha : a < 32) (hb : b < 32) (l c f3 f7 : Nat) (hrow : rvRow op = (72, c, f3, f7)) (hbd : c < 4294967296 ∧ f3 < 8 ∧ f7 < 64) (hl : l = 72) (hr : rightI (op : Int) d a b n = true) (hn : 0 ≤ n ∧ n ≤ 63) (h1 : 1 ≤ op) (w : World) (hR : RvRows w) :
    Calls Tryz.prog 63 #[.agg #[.int .i64 (op : Int), .int .i64 (d : Int), .int .i64 (a : Int), .int .i64 (b : Int), .int .i64 n]] w (EncTo (rwordN l c f3 f7 d a b n) w) := by
  have HCk := Lib.hid (fun W (hW : RvRows W) => rvCheck_any (op : Int) d a b n W hW)
  unfold CheckTo insE at HCk
  rw [hr] at HCk
  have HRo := Lib.hid (fun W (hW : RvRows W) => rvOf_in op W hW h1 hop)
  unfold rowV at HRo
  rw [Int.toNat_natCast, hrow] at HRo
  obtain ⟨hc, h3, h7⟩ := hbd
  subst hl
  clear hrow hr
  obtain ⟨m, hm⟩ : ∃ m : Nat, n % 4294967296 = (m : Int) := ⟨(n % 4294967296).toNat, by omega⟩
  have hml := m_lt hm
  have HH := Lib.hid (headI c f3 d a b hc h3 hd ha hb)
  have hHl := headN_lt c f3 d a b hc h3 hd ha hb
  obtain ⟨H, hH⟩ : ∃ H, H = headN c f3 d a b := ⟨_, rfl⟩
  rw [← hH] at HH hHl
  obtain ⟨z, hz0⟩ : ∃ z, z = rwordN 72 c f3 f7 d a b n := ⟨_, rfl⟩
  rw [← hz0]
  unfold rwordN at hz0
  rw [← hH] at hz0
  have HZ0 := Lib.hid hz0
  have HN := Lib.hid hn
  clear hH hz0 hn
  have hB0 : Below w.heap.size w (w.alloc (.cells #[.int .i64 op, .int .i64 d, .int .i64 a, .int .i64 b, .int .i64 n] 26)) := form1 w _
  have hR0 := hR.below hB0
  go_enter Tryz.func63, Tryz.ntmps63
  go_wp2_with fail
  refine Calls.mono (HCk.out _ hR0) ?_
  rintro e w1 ⟨rfl, hB1⟩
  have hR1 := hR0.below hB1
  have hBw := hB0.trans (hB1.mono hB0.size)
  have hb1 : w1.heap[w.heap.size]? = some (.cells #[.int .i64 op, .int .i64 d, .int .i64 a, .int .i64 b, .int .i64 n] 26 (0, 0)) := (hB1.block _ (by rw [World.size_alloc]; omega)).trans (heap_alloc_new w _)
  have hs1 : w.heap.size < w1.heap.size := by have := hB1.size; rw [World.size_alloc] at this; omega
  have y0 : w1.cell? ⟨w.heap.size, 0, none⟩ = some (.int .i64 op) := (obj_cell hb1 0).trans rfl
  clear hR hR0
  go_wp2_with fail
  refine Calls.mono (HRo.out _ hR1) ?_
  rintro e w2 ⟨rfl, hB2⟩
  have hBx := hBw.trans (hB2.mono hBw.size)
  have hb2 := (hB2.block _ hs1).trans hb1
  have hs2 : w.heap.size < w2.heap.size := Nat.lt_of_lt_of_le hs1 hB2.size
  clear y0 hR1
  have x1 : w2.cell? ⟨w.heap.size, 1, none⟩ = some (.int .i64 d) := (obj_cell hb2 1).trans rfl
  have x2 : w2.cell? ⟨w.heap.size, 2, none⟩ = some (.int .i64 a) := (obj_cell hb2 2).trans rfl
  have x3 : w2.cell? ⟨w.heap.size, 3, none⟩ = some (.int .i64 b) := (obj_cell hb2 3).trans rfl
  have x4 : w2.cell? ⟨w.heap.size, 4, none⟩ = some (.int .i64 n) := (obj_cell hb2 4).trans rfl
  clear hb1 hb2 hB0 hB1 hB2 hBw hs1
  go_wp2
  go_quiet ((first
    | (go_at_call 88; (with_reducible exact Calls.quiet_of_same (rvb_0_6_20 m hml _)))))
  go_wp2
  go_ret2
  refine ⟨congrArg (fun z => Ending.returned (Value.tuple #[Value.int IntKind.u32 z, .int .i64 0])) ?_, ?_⟩
  · rw [HH.out, HZ0.out]
    simp only [Nat.reduceEqDiff, if_true, if_false, true_or]
    have e0_6 : bitsN m 0 6 20 = m / 2 ^ 0 % 2 ^ 6 * 1048576 := bitsN_eq m 0 6 20 (by omega)
    rw [e0_6]
    have e7 : (n % 4294967296).toNat * 1048576 % 4294967296 = m / 2 ^ 0 % 2 ^ 6 * 1048576 := by have := HN.out; omega
    rw [e7, Nat.or_assoc, orN (f7 * 33554432) (m / 2 ^ 0 % 2 ^ 6 * 1048576) (by omega) (by omega) _ _ (by omega) rfl, orN H _ hHl (or_lt32 (by omega) (by omega)) _ _ rfl rfl]
  · first | exact hBx.alloc hBx.size _ | exact bdrewN (hBx.alloc hBx.size _) _
set_option maxRecDepth 20000 in
set_option maxHeartbeats 4000000 in
theorem enc_104 (op d a b : Nat) (n : Int) (hop : op < 66) (hd : d < 32) (ha : a < 32) (hb : b < 32) (l c f3 f7 : Nat) (hrow : rvRow op = (72, c, f3, f7)) (hbd : c < 4294967296 ∧ f3 < 8 ∧ f7 < 64) (hl : l = 104) (hr : rightI (op : Int) d a b n = true) (hn : 0 ≤ n ∧ n ≤ 63) (h1 : 1 ≤ op) (w : World) (hR : RvRows w) :
    Calls Tryz.prog 63 #[.agg #[.int .i64 (op : Int), .int .i64 (d : Int), .int .i64 (a : Int), .int .i64 (b : Int), .int .i64 n]] w (EncTo (rwordN l c f3 f7 d a b n) w) := by
  have HCk := Lib.hid (fun W (hW : RvRows W) => rvCheck_any (op : Int) d a b n W hW)
  unfold CheckTo insE at HCk
  rw [hr] at HCk
  have HRo := Lib.hid (fun W (hW : RvRows W) => rvOf_in op W hW h1 hop)
  unfold rowV at HRo
  rw [Int.toNat_natCast, hrow] at HRo
  obtain ⟨hc, h3, h7⟩ := hbd
  subst hl
  clear hrow hr
  obtain ⟨m, hm⟩ : ∃ m : Nat, n % 4294967296 = (m : Int) := ⟨(n % 4294967296).toNat, by omega⟩
  have hml := m_lt hm
  have HH := Lib.hid (headI c f3 d a b hc h3 hd ha hb)
  have hHl := headN_lt c f3 d a b hc h3 hd ha hb
  obtain ⟨H, hH⟩ : ∃ H, H = headN c f3 d a b := ⟨_, rfl⟩
  rw [← hH] at HH hHl
  obtain ⟨z, hz0⟩ : ∃ z, z = rwordN 104 c f3 f7 d a b n := ⟨_, rfl⟩
  rw [← hz0]
  unfold rwordN at hz0
  rw [← hH] at hz0
  have HZ0 := Lib.hid hz0
  have HN := Lib.hid hn
  clear hH hz0 hn
  have hB0 : Below w.heap.size w (w.alloc (.cells #[.int .i64 op, .int .i64 d, .int .i64 a, .int .i64 b, .int .i64 n] 26)) := form1 w _
  have hR0 := hR.below hB0
  go_enter Tryz.func63, Tryz.ntmps63
  go_wp2_with fail
  refine Calls.mono (HCk.out _ hR0) ?_
  rintro e w1 ⟨rfl, hB1⟩
  have hR1 := hR0.below hB1
  have hBw := hB0.trans (hB1.mono hB0.size)
  have hb1 : w1.heap[w.heap.size]? = some (.cells #[.int .i64 op, .int .i64 d, .int .i64 a, .int .i64 b, .int .i64 n] 26 (0, 0)) := (hB1.block _ (by rw [World.size_alloc]; omega)).trans (heap_alloc_new w _)
  have hs1 : w.heap.size < w1.heap.size := by have := hB1.size; rw [World.size_alloc] at this; omega
  have y0 : w1.cell? ⟨w.heap.size, 0, none⟩ = some (.int .i64 op) := (obj_cell hb1 0).trans rfl
  clear hR hR0
  go_wp2_with fail
  refine Calls.mono (HRo.out _ hR1) ?_
  rintro e w2 ⟨rfl, hB2⟩
  have hBx := hBw.trans (hB2.mono hBw.size)
  have hb2 := (hB2.block _ hs1).trans hb1
  have hs2 : w.heap.size < w2.heap.size := Nat.lt_of_lt_of_le hs1 hB2.size
  clear y0 hR1
  have x1 : w2.cell? ⟨w.heap.size, 1, none⟩ = some (.int .i64 d) := (obj_cell hb2 1).trans rfl
  have x2 : w2.cell? ⟨w.heap.size, 2, none⟩ = some (.int .i64 a) := (obj_cell hb2 2).trans rfl
  have x3 : w2.cell? ⟨w.heap.size, 3, none⟩ = some (.int .i64 b) := (obj_cell hb2 3).trans rfl
  have x4 : w2.cell? ⟨w.heap.size, 4, none⟩ = some (.int .i64 n) := (obj_cell hb2 4).trans rfl
  clear hb1 hb2 hB0 hB1 hB2 hBw hs1
  go_wp2
  go_quiet ((first
    | (go_at_call 88; (with_reducible exact Calls.quiet_of_same (rvb_0_6_20 m hml _)))))
  go_wp2
  go_ret2
  refine ⟨congrArg (fun z => Ending.returned (Value.tuple #[Value.int IntKind.u32 z, .int .i64 0])) ?_, ?_⟩
  · rw [HH.out, HZ0.out]
    simp only [Nat.reduceEqDiff, if_true, if_false, or_true]
    have e0_6 : bitsN m 0 6 20 = m / 2 ^ 0 % 2 ^ 6 * 1048576 := bitsN_eq m 0 6 20 (by omega)
    rw [e0_6]
    have e7 : (n % 4294967296).toNat * 1048576 % 4294967296 = m / 2 ^ 0 % 2 ^ 6 * 1048576 := by have := HN.out; omega
    rw [e7, Nat.or_assoc, orN (f7 * 33554432) (m / 2 ^ 0 % 2 ^ 6 * 1048576) (by omega) (by omega) _ _ (by omega) rfl, orN H _ hHl (or_lt32 (by omega) (by omega)) _ _ rfl rfl]
  · first | exact hBx.alloc hBx.size _ | exact bdrewN (hBx.alloc hBx.size _) _
set_option maxRecDepth 20000 in
set_option maxHeartbeats 4000000 in
theorem enc_83 (op d a b : Nat) (n : Int) (hop : op < 66) (hd : d < 32) (ha : a < 32) (hb : b < 32) (l c f3 f7 : Nat) (hrow : rvRow op = (83, c, f3, f7)) (hbd : c < 4294967296 ∧ f3 < 8 ∧ f7 < 64) (hl : l = 83) (hr : rightI (op : Int) d a b n = true) (hn : True) (h1 : 1 ≤ op) (w : World) (hR : RvRows w) :
    Calls Tryz.prog 63 #[.agg #[.int .i64 (op : Int), .int .i64 (d : Int), .int .i64 (a : Int), .int .i64 (b : Int), .int .i64 n]] w (EncTo (rwordN l c f3 f7 d a b n) w) := by
  have HCk := Lib.hid (fun W (hW : RvRows W) => rvCheck_any (op : Int) d a b n W hW)
  unfold CheckTo insE at HCk
  rw [hr] at HCk
  have HRo := Lib.hid (fun W (hW : RvRows W) => rvOf_in op W hW h1 hop)
  unfold rowV at HRo
  rw [Int.toNat_natCast, hrow] at HRo
  obtain ⟨hc, h3, h7⟩ := hbd
  subst hl
  clear hrow hr
  obtain ⟨m, hm⟩ : ∃ m : Nat, n % 4294967296 = (m : Int) := ⟨(n % 4294967296).toNat, by omega⟩
  have hml := m_lt hm
  have HH := Lib.hid (headI c f3 d a b hc h3 hd ha hb)
  have hHl := headN_lt c f3 d a b hc h3 hd ha hb
  obtain ⟨H, hH⟩ : ∃ H, H = headN c f3 d a b := ⟨_, rfl⟩
  rw [← hH] at HH hHl
  obtain ⟨z, hz0⟩ : ∃ z, z = rwordN 83 c f3 f7 d a b n := ⟨_, rfl⟩
  rw [← hz0]
  unfold rwordN at hz0
  rw [← hH] at hz0
  have HZ0 := Lib.hid hz0
  have HN := Lib.hid hn
  clear hH hz0 hn
  have hB0 : Below w.heap.size w (w.alloc (.cells #[.int .i64 op, .int .i64 d, .int .i64 a, .int .i64 b, .int .i64 n] 26)) := form1 w _
  have hR0 := hR.below hB0
  go_enter Tryz.func63, Tryz.ntmps63
  go_wp2_with fail
  refine Calls.mono (HCk.out _ hR0) ?_
  rintro e w1 ⟨rfl, hB1⟩
  have hR1 := hR0.below hB1
  have hBw := hB0.trans (hB1.mono hB0.size)
  have hb1 : w1.heap[w.heap.size]? = some (.cells #[.int .i64 op, .int .i64 d, .int .i64 a, .int .i64 b, .int .i64 n] 26 (0, 0)) := (hB1.block _ (by rw [World.size_alloc]; omega)).trans (heap_alloc_new w _)
  have hs1 : w.heap.size < w1.heap.size := by have := hB1.size; rw [World.size_alloc] at this; omega
  have y0 : w1.cell? ⟨w.heap.size, 0, none⟩ = some (.int .i64 op) := (obj_cell hb1 0).trans rfl
  clear hR hR0
  go_wp2_with fail
  refine Calls.mono (HRo.out _ hR1) ?_
  rintro e w2 ⟨rfl, hB2⟩
  have hBx := hBw.trans (hB2.mono hBw.size)
  have hb2 := (hB2.block _ hs1).trans hb1
  have hs2 : w.heap.size < w2.heap.size := Nat.lt_of_lt_of_le hs1 hB2.size
  clear y0 hR1
  have x1 : w2.cell? ⟨w.heap.size, 1, none⟩ = some (.int .i64 d) := (obj_cell hb2 1).trans rfl
  have x2 : w2.cell? ⟨w.heap.size, 2, none⟩ = some (.int .i64 a) := (obj_cell hb2 2).trans rfl
  have x3 : w2.cell? ⟨w.heap.size, 3, none⟩ = some (.int .i64 b) := (obj_cell hb2 3).trans rfl
  have x4 : w2.cell? ⟨w.heap.size, 4, none⟩ = some (.int .i64 n) := (obj_cell hb2 4).trans rfl
  clear hb1 hb2 hB0 hB1 hB2 hBw hs1
  go_wp2_with (first
    | (go_at_call 88; (with_reducible refine (rvb_0_5_7 m hml _).mono ?_); rintro e w' ⟨rfl, rfl⟩)
    | (go_at_call 88; (with_reducible refine (rvb_5_7_25 m hml _).mono ?_); rintro e w' ⟨rfl, rfl⟩))
  go_ret2
  refine ⟨congrArg (fun z => Ending.returned (Value.tuple #[Value.int IntKind.u32 z, .int .i64 0])) ?_, ?_⟩
  · rw [HH.out, HZ0.out]
    simp only [Nat.reduceEqDiff, if_true, if_false, or_self]
    rw [bitM_0_5 n m hm]
    have e0_5 : bitsN m 0 5 7 = m / 2 ^ 0 % 2 ^ 5 * 128 := bitsN_eq m 0 5 7 (by omega)
    rw [e0_5]
    rw [bitM_5_7 n m hm]
    have e5_7 : bitsN m 5 7 25 = m / 2 ^ 5 % 2 ^ 7 * 33554432 := bitsN_eq m 5 7 25 (by omega)
    rw [e5_7]
    rw [orN _ (m / 2 ^ 5 % 2 ^ 7 * 33554432) (by omega) (by omega) _ _ rfl rfl, orN H _ hHl (or_lt32 (by omega) (by omega)) _ _ rfl rfl]
    simp only [Nat.or_assoc]
  · first | exact hBx.alloc hBx.size _ | exact bdrewN (hBx.alloc hBx.size _) _
set_option maxRecDepth 20000 in
set_option maxHeartbeats 4000000 in
theorem enc_66 (op d a b : Nat) (n : Int) (hop : op < 66) (hd : d < 32) (ha : a < 32) (hb : b < 32) (l c f3 f7 : Nat) (hrow : rvRow op = (66, c, f3, f7)) (hbd : c < 4294967296 ∧ f3 < 8 ∧ f7 < 64) (hl : l = 66) (hr : rightI (op : Int) d a b n = true) (hn : True) (h1 : 1 ≤ op) (w : World) (hR : RvRows w) :
    Calls Tryz.prog 63 #[.agg #[.int .i64 (op : Int), .int .i64 (d : Int), .int .i64 (a : Int), .int .i64 (b : Int), .int .i64 n]] w (EncTo (rwordN l c f3 f7 d a b n) w) := by
  have HCk := Lib.hid (fun W (hW : RvRows W) => rvCheck_any (op : Int) d a b n W hW)
  unfold CheckTo insE at HCk
  rw [hr] at HCk
  have HRo := Lib.hid (fun W (hW : RvRows W) => rvOf_in op W hW h1 hop)
  unfold rowV at HRo
  rw [Int.toNat_natCast, hrow] at HRo
  obtain ⟨hc, h3, h7⟩ := hbd
  subst hl
  clear hrow hr
  obtain ⟨m, hm⟩ : ∃ m : Nat, n % 4294967296 = (m : Int) := ⟨(n % 4294967296).toNat, by omega⟩
  have hml := m_lt hm
  have HH := Lib.hid (headI c f3 d a b hc h3 hd ha hb)
  have hHl := headN_lt c f3 d a b hc h3 hd ha hb
  obtain ⟨H, hH⟩ : ∃ H, H = headN c f3 d a b := ⟨_, rfl⟩
  rw [← hH] at HH hHl
  obtain ⟨z, hz0⟩ : ∃ z, z = rwordN 66 c f3 f7 d a b n := ⟨_, rfl⟩
  rw [← hz0]
  unfold rwordN at hz0
  rw [← hH] at hz0
  have HZ0 := Lib.hid hz0
  have HN := Lib.hid hn
  clear hH hz0 hn
  have hB0 : Below w.heap.size w (w.alloc (.cells #[.int .i64 op, .int .i64 d, .int .i64 a, .int .i64 b, .int .i64 n] 26)) := form1 w _
  have hR0 := hR.below hB0
  go_enter Tryz.func63, Tryz.ntmps63
  go_wp2_with fail
  refine Calls.mono (HCk.out _ hR0) ?_
  rintro e w1 ⟨rfl, hB1⟩
  have hR1 := hR0.below hB1
  have hBw := hB0.trans (hB1.mono hB0.size)
  have hb1 : w1.heap[w.heap.size]? = some (.cells #[.int .i64 op, .int .i64 d, .int .i64 a, .int .i64 b, .int .i64 n] 26 (0, 0)) := (hB1.block _ (by rw [World.size_alloc]; omega)).trans (heap_alloc_new w _)
  have hs1 : w.heap.size < w1.heap.size := by have := hB1.size; rw [World.size_alloc] at this; omega
  have y0 : w1.cell? ⟨w.heap.size, 0, none⟩ = some (.int .i64 op) := (obj_cell hb1 0).trans rfl
  clear hR hR0
  go_wp2_with fail
  refine Calls.mono (HRo.out _ hR1) ?_
  rintro e w2 ⟨rfl, hB2⟩
  have hBx := hBw.trans (hB2.mono hBw.size)
  have hb2 := (hB2.block _ hs1).trans hb1
  have hs2 : w.heap.size < w2.heap.size := Nat.lt_of_lt_of_le hs1 hB2.size
  clear y0 hR1
  have x1 : w2.cell? ⟨w.heap.size, 1, none⟩ = some (.int .i64 d) := (obj_cell hb2 1).trans rfl
  have x2 : w2.cell? ⟨w.heap.size, 2, none⟩ = some (.int .i64 a) := (obj_cell hb2 2).trans rfl
  have x3 : w2.cell? ⟨w.heap.size, 3, none⟩ = some (.int .i64 b) := (obj_cell hb2 3).trans rfl
  have x4 : w2.cell? ⟨w.heap.size, 4, none⟩ = some (.int .i64 n) := (obj_cell hb2 4).trans rfl
  clear hb1 hb2 hB0 hB1 hB2 hBw hs1
  go_wp2_with (first
    | (go_at_call 88; (with_reducible refine (rvb_11_1_7 m hml _).mono ?_); rintro e w' ⟨rfl, rfl⟩)
    | (go_at_call 88; (with_reducible refine (rvb_1_4_8 m hml _).mono ?_); rintro e w' ⟨rfl, rfl⟩)
    | (go_at_call 88; (with_reducible refine (rvb_5_6_25 m hml _).mono ?_); rintro e w' ⟨rfl, rfl⟩)
    | (go_at_call 88; (with_reducible refine (rvb_12_1_31 m hml _).mono ?_); rintro e w' ⟨rfl, rfl⟩))
  go_ret2
  refine ⟨congrArg (fun z => Ending.returned (Value.tuple #[Value.int IntKind.u32 z, .int .i64 0])) ?_, ?_⟩
  · rw [HH.out, HZ0.out]
    simp only [Nat.reduceEqDiff, if_true, if_false, or_self]
    rw [bitM_11_1 n m hm]
    have e11_1 : bitsN m 11 1 7 = m / 2 ^ 11 % 2 ^ 1 * 128 := bitsN_eq m 11 1 7 (by omega)
    rw [e11_1]
    rw [bitM_1_4 n m hm]
    have e1_4 : bitsN m 1 4 8 = m / 2 ^ 1 % 2 ^ 4 * 256 := bitsN_eq m 1 4 8 (by omega)
    rw [e1_4]
    rw [bitM_5_6 n m hm]
    have e5_6 : bitsN m 5 6 25 = m / 2 ^ 5 % 2 ^ 6 * 33554432 := bitsN_eq m 5 6 25 (by omega)
    rw [e5_6]
    rw [bitM_12_1 n m hm]
    have e12_1 : bitsN m 12 1 31 = m / 2 ^ 12 % 2 ^ 1 * 2147483648 := bitsN_eq m 12 1 31 (by omega)
    rw [e12_1]
    rw [orN _ (m / 2 ^ 1 % 2 ^ 4 * 256) (by omega) (by omega) _ _ rfl rfl, orN _ (m / 2 ^ 5 % 2 ^ 6 * 33554432) (or_lt32 (by omega) (by omega)) (by omega) _ _ rfl rfl, orN _ (m / 2 ^ 12 % 2 ^ 1 * 2147483648) (or_lt32 (or_lt32 (by omega) (by omega)) (by omega)) (by omega) _ _ rfl rfl, orN H _ hHl (or_lt32 (or_lt32 (or_lt32 (by omega) (by omega)) (by omega)) (by omega)) _ _ rfl rfl]
    simp only [Nat.or_assoc]
  · first | exact hBx.alloc hBx.size _ | exact bdrewN (hBx.alloc hBx.size _) _
set_option maxRecDepth 20000 in
set_option maxHeartbeats 4000000 in
theorem enc_85 (op d a b : Nat) (n : Int) (hop : op < 66) (hd : d < 32) (ha : a < 32) (hb : b < 32) (l c f3 f7 : Nat) (hrow : rvRow op = (85, c, f3, f7)) (hbd : c < 4294967296 ∧ f3 < 8 ∧ f7 < 64) (hl : l = 85) (hr : rightI (op : Int) d a b n = true) (hn : True) (h1 : 1 ≤ op) (w : World) (hR : RvRows w) :
    Calls Tryz.prog 63 #[.agg #[.int .i64 (op : Int), .int .i64 (d : Int), .int .i64 (a : Int), .int .i64 (b : Int), .int .i64 n]] w (EncTo (rwordN l c f3 f7 d a b n) w) := by
  have HCk := Lib.hid (fun W (hW : RvRows W) => rvCheck_any (op : Int) d a b n W hW)
  unfold CheckTo insE at HCk
  rw [hr] at HCk
  have HRo := Lib.hid (fun W (hW : RvRows W) => rvOf_in op W hW h1 hop)
  unfold rowV at HRo
  rw [Int.toNat_natCast, hrow] at HRo
  obtain ⟨hc, h3, h7⟩ := hbd
  subst hl
  clear hrow hr
  obtain ⟨m, hm⟩ : ∃ m : Nat, n % 4294967296 = (m : Int) := ⟨(n % 4294967296).toNat, by omega⟩
  have hml := m_lt hm
  have HH := Lib.hid (headI c f3 d a b hc h3 hd ha hb)
  have hHl := headN_lt c f3 d a b hc h3 hd ha hb
  obtain ⟨H, hH⟩ : ∃ H, H = headN c f3 d a b := ⟨_, rfl⟩
  rw [← hH] at HH hHl
  obtain ⟨z, hz0⟩ : ∃ z, z = rwordN 85 c f3 f7 d a b n := ⟨_, rfl⟩
  rw [← hz0]
  unfold rwordN at hz0
  rw [← hH] at hz0
  have HZ0 := Lib.hid hz0
  have HN := Lib.hid hn
  clear hH hz0 hn
  have hB0 : Below w.heap.size w (w.alloc (.cells #[.int .i64 op, .int .i64 d, .int .i64 a, .int .i64 b, .int .i64 n] 26)) := form1 w _
  have hR0 := hR.below hB0
  go_enter Tryz.func63, Tryz.ntmps63
  go_wp2_with fail
  refine Calls.mono (HCk.out _ hR0) ?_
  rintro e w1 ⟨rfl, hB1⟩
  have hR1 := hR0.below hB1
  have hBw := hB0.trans (hB1.mono hB0.size)
  have hb1 : w1.heap[w.heap.size]? = some (.cells #[.int .i64 op, .int .i64 d, .int .i64 a, .int .i64 b, .int .i64 n] 26 (0, 0)) := (hB1.block _ (by rw [World.size_alloc]; omega)).trans (heap_alloc_new w _)
  have hs1 : w.heap.size < w1.heap.size := by have := hB1.size; rw [World.size_alloc] at this; omega
  have y0 : w1.cell? ⟨w.heap.size, 0, none⟩ = some (.int .i64 op) := (obj_cell hb1 0).trans rfl
  clear hR hR0
  go_wp2_with fail
  refine Calls.mono (HRo.out _ hR1) ?_
  rintro e w2 ⟨rfl, hB2⟩
  have hBx := hBw.trans (hB2.mono hBw.size)
  have hb2 := (hB2.block _ hs1).trans hb1
  have hs2 : w.heap.size < w2.heap.size := Nat.lt_of_lt_of_le hs1 hB2.size
  clear y0 hR1
  have x1 : w2.cell? ⟨w.heap.size, 1, none⟩ = some (.int .i64 d) := (obj_cell hb2 1).trans rfl
  have x2 : w2.cell? ⟨w.heap.size, 2, none⟩ = some (.int .i64 a) := (obj_cell hb2 2).trans rfl
  have x3 : w2.cell? ⟨w.heap.size, 3, none⟩ = some (.int .i64 b) := (obj_cell hb2 3).trans rfl
  have x4 : w2.cell? ⟨w.heap.size, 4, none⟩ = some (.int .i64 n) := (obj_cell hb2 4).trans rfl
  clear hb1 hb2 hB0 hB1 hB2 hBw hs1
  go_wp2_with (first
    | (go_at_call 88; (with_reducible refine (rvb_0_20_12 m hml _).mono ?_); rintro e w' ⟨rfl, rfl⟩))
  go_ret2
  refine ⟨congrArg (fun z => Ending.returned (Value.tuple #[Value.int IntKind.u32 z, .int .i64 0])) ?_, ?_⟩
  · rw [HH.out, HZ0.out]
    simp only [Nat.reduceEqDiff, if_true, if_false, or_self]
    rw [bitM_0_20 n m hm]
    have e0_20 : bitsN m 0 20 12 = m / 2 ^ 0 % 2 ^ 20 * 4096 := bitsN_eq m 0 20 12 (by omega)
    rw [e0_20]
    rw [orN H (m / 2 ^ 0 % 2 ^ 20 * 4096) hHl (by omega) _ _ rfl rfl]
  · first | exact hBx.alloc hBx.size _ | exact bdrewN (hBx.alloc hBx.size _) _
set_option maxRecDepth 20000 in
set_option maxHeartbeats 4000000 in
theorem enc_74 (op d a b : Nat) (n : Int) (hop : op < 66) (hd : d < 32) (ha : a < 32) (hb : b < 32) (l c f3 f7 : Nat) (hrow : rvRow op = (74, c, f3, f7)) (hbd : c < 4294967296 ∧ f3 < 8 ∧ f7 < 64) (hl : l = 74) (hr : rightI (op : Int) d a b n = true) (hn : True) (h1 : 1 ≤ op) (w : World) (hR : RvRows w) :
    Calls Tryz.prog 63 #[.agg #[.int .i64 (op : Int), .int .i64 (d : Int), .int .i64 (a : Int), .int .i64 (b : Int), .int .i64 n]] w (EncTo (rwordN l c f3 f7 d a b n) w) := by
  have HCk := Lib.hid (fun W (hW : RvRows W) => rvCheck_any (op : Int) d a b n W hW)
  unfold CheckTo insE at HCk
  rw [hr] at HCk
  have HRo := Lib.hid (fun W (hW : RvRows W) => rvOf_in op W hW h1 hop)
  unfold rowV at HRo
  rw [Int.toNat_natCast, hrow] at HRo
  obtain ⟨hc, h3, h7⟩ := hbd
  subst hl
  clear hrow hr
  obtain ⟨m, hm⟩ : ∃ m : Nat, n % 4294967296 = (m : Int) := ⟨(n % 4294967296).toNat, by omega⟩
  have hml := m_lt hm
  have HH := Lib.hid (headI c f3 d a b hc h3 hd ha hb)
  have hHl := headN_lt c f3 d a b hc h3 hd ha hb
  obtain ⟨H, hH⟩ : ∃ H, H = headN c f3 d a b := ⟨_, rfl⟩
  rw [← hH] at HH hHl
  obtain ⟨z, hz0⟩ : ∃ z, z = rwordN 74 c f3 f7 d a b n := ⟨_, rfl⟩
  rw [← hz0]
  unfold rwordN at hz0
  rw [← hH] at hz0
  have HZ0 := Lib.hid hz0
  have HN := Lib.hid hn
  clear hH hz0 hn
  have hB0 : Below w.heap.size w (w.alloc (.cells #[.int .i64 op, .int .i64 d, .int .i64 a, .int .i64 b, .int .i64 n] 26)) := form1 w _
  have hR0 := hR.below hB0
  go_enter Tryz.func63, Tryz.ntmps63
  go_wp2_with fail
  refine Calls.mono (HCk.out _ hR0) ?_
  rintro e w1 ⟨rfl, hB1⟩
  have hR1 := hR0.below hB1
  have hBw := hB0.trans (hB1.mono hB0.size)
  have hb1 : w1.heap[w.heap.size]? = some (.cells #[.int .i64 op, .int .i64 d, .int .i64 a, .int .i64 b, .int .i64 n] 26 (0, 0)) := (hB1.block _ (by rw [World.size_alloc]; omega)).trans (heap_alloc_new w _)
  have hs1 : w.heap.size < w1.heap.size := by have := hB1.size; rw [World.size_alloc] at this; omega
  have y0 : w1.cell? ⟨w.heap.size, 0, none⟩ = some (.int .i64 op) := (obj_cell hb1 0).trans rfl
  clear hR hR0
  go_wp2_with fail
  refine Calls.mono (HRo.out _ hR1) ?_
  rintro e w2 ⟨rfl, hB2⟩
  have hBx := hBw.trans (hB2.mono hBw.size)
  have hb2 := (hB2.block _ hs1).trans hb1
  have hs2 : w.heap.size < w2.heap.size := Nat.lt_of_lt_of_le hs1 hB2.size
  clear y0 hR1
  have x1 : w2.cell? ⟨w.heap.size, 1, none⟩ = some (.int .i64 d) := (obj_cell hb2 1).trans rfl
  have x2 : w2.cell? ⟨w.heap.size, 2, none⟩ = some (.int .i64 a) := (obj_cell hb2 2).trans rfl
  have x3 : w2.cell? ⟨w.heap.size, 3, none⟩ = some (.int .i64 b) := (obj_cell hb2 3).trans rfl
  have x4 : w2.cell? ⟨w.heap.size, 4, none⟩ = some (.int .i64 n) := (obj_cell hb2 4).trans rfl
  clear hb1 hb2 hB0 hB1 hB2 hBw hs1
  go_wp2_with (first
    | (go_at_call 88; (with_reducible refine (rvb_12_8_12 m hml _).mono ?_); rintro e w' ⟨rfl, rfl⟩)
    | (go_at_call 88; (with_reducible refine (rvb_11_1_20 m hml _).mono ?_); rintro e w' ⟨rfl, rfl⟩)
    | (go_at_call 88; (with_reducible refine (rvb_1_10_21 m hml _).mono ?_); rintro e w' ⟨rfl, rfl⟩)
    | (go_at_call 88; (with_reducible refine (rvb_20_1_31 m hml _).mono ?_); rintro e w' ⟨rfl, rfl⟩))
  go_ret2
  refine ⟨congrArg (fun z => Ending.returned (Value.tuple #[Value.int IntKind.u32 z, .int .i64 0])) ?_, ?_⟩
  · rw [HH.out, HZ0.out]
    simp only [Nat.reduceEqDiff, if_true, if_false, or_self]
    rw [bitM_12_8 n m hm]
    have e12_8 : bitsN m 12 8 12 = m / 2 ^ 12 % 2 ^ 8 * 4096 := bitsN_eq m 12 8 12 (by omega)
    rw [e12_8]
    rw [bitM_11_1 n m hm]
    have e11_1 : bitsN m 11 1 20 = m / 2 ^ 11 % 2 ^ 1 * 1048576 := bitsN_eq m 11 1 20 (by omega)
    rw [e11_1]
    rw [bitM_1_10 n m hm]
    have e1_10 : bitsN m 1 10 21 = m / 2 ^ 1 % 2 ^ 10 * 2097152 := bitsN_eq m 1 10 21 (by omega)
    rw [e1_10]
    rw [bitM_20_1 n m hm]
    have e20_1 : bitsN m 20 1 31 = m / 2 ^ 20 % 2 ^ 1 * 2147483648 := bitsN_eq m 20 1 31 (by omega)
    rw [e20_1]
    rw [orN _ (m / 2 ^ 11 % 2 ^ 1 * 1048576) (by omega) (by omega) _ _ rfl rfl, orN _ (m / 2 ^ 1 % 2 ^ 10 * 2097152) (or_lt32 (by omega) (by omega)) (by omega) _ _ rfl rfl, orN _ (m / 2 ^ 20 % 2 ^ 1 * 2147483648) (or_lt32 (or_lt32 (by omega) (by omega)) (by omega)) (by omega) _ _ rfl rfl, orN H _ hHl (or_lt32 (or_lt32 (or_lt32 (by omega) (by omega)) (by omega)) (by omega)) _ _ rfl rfl]
    simp only [Nat.or_assoc]
  · first | exact hBx.alloc hBx.size _ | exact bdrewN (hBx.alloc hBx.size _) _
set_option maxRecDepth 20000 in
set_option maxHeartbeats 4000000 in
theorem enc_78 (op d a b : Nat) (n : Int) (hop : op < 66) (hd : d < 32) (ha : a < 32) (hb : b < 32) (l c f3 f7 : Nat) (hrow : rvRow op = (78, c, f3, f7)) (hbd : c < 4294967296 ∧ f3 < 8 ∧ f7 < 64) (hl : l = 78) (hr : rightI (op : Int) d a b n = true) (hn : True) (h1 : 1 ≤ op) (w : World) (hR : RvRows w) :
    Calls Tryz.prog 63 #[.agg #[.int .i64 (op : Int), .int .i64 (d : Int), .int .i64 (a : Int), .int .i64 (b : Int), .int .i64 n]] w (EncTo (rwordN l c f3 f7 d a b n) w) := by
  have HCk := Lib.hid (fun W (hW : RvRows W) => rvCheck_any (op : Int) d a b n W hW)
  unfold CheckTo insE at HCk
  rw [hr] at HCk
  have HRo := Lib.hid (fun W (hW : RvRows W) => rvOf_in op W hW h1 hop)
  unfold rowV at HRo
  rw [Int.toNat_natCast, hrow] at HRo
  obtain ⟨hc, h3, h7⟩ := hbd
  subst hl
  clear hrow hr
  obtain ⟨m, hm⟩ : ∃ m : Nat, n % 4294967296 = (m : Int) := ⟨(n % 4294967296).toNat, by omega⟩
  have hml := m_lt hm
  have HH := Lib.hid (headI c f3 d a b hc h3 hd ha hb)
  have hHl := headN_lt c f3 d a b hc h3 hd ha hb
  obtain ⟨H, hH⟩ : ∃ H, H = headN c f3 d a b := ⟨_, rfl⟩
  rw [← hH] at HH hHl
  obtain ⟨z, hz0⟩ : ∃ z, z = rwordN 78 c f3 f7 d a b n := ⟨_, rfl⟩
  rw [← hz0]
  unfold rwordN at hz0
  rw [← hH] at hz0
  have HZ0 := Lib.hid hz0
  have HN := Lib.hid hn
  clear hH hz0 hn
  have hB0 : Below w.heap.size w (w.alloc (.cells #[.int .i64 op, .int .i64 d, .int .i64 a, .int .i64 b, .int .i64 n] 26)) := form1 w _
  have hR0 := hR.below hB0
  go_enter Tryz.func63, Tryz.ntmps63
  go_wp2_with fail
  refine Calls.mono (HCk.out _ hR0) ?_
  rintro e w1 ⟨rfl, hB1⟩
  have hR1 := hR0.below hB1
  have hBw := hB0.trans (hB1.mono hB0.size)
  have hb1 : w1.heap[w.heap.size]? = some (.cells #[.int .i64 op, .int .i64 d, .int .i64 a, .int .i64 b, .int .i64 n] 26 (0, 0)) := (hB1.block _ (by rw [World.size_alloc]; omega)).trans (heap_alloc_new w _)
  have hs1 : w.heap.size < w1.heap.size := by have := hB1.size; rw [World.size_alloc] at this; omega
  have y0 : w1.cell? ⟨w.heap.size, 0, none⟩ = some (.int .i64 op) := (obj_cell hb1 0).trans rfl
  clear hR hR0
  go_wp2_with fail
  refine Calls.mono (HRo.out _ hR1) ?_
  rintro e w2 ⟨rfl, hB2⟩
  have hBx := hBw.trans (hB2.mono hBw.size)
  have hb2 := (hB2.block _ hs1).trans hb1
  have hs2 : w.heap.size < w2.heap.size := Nat.lt_of_lt_of_le hs1 hB2.size
  clear y0 hR1
  have x1 : w2.cell? ⟨w.heap.size, 1, none⟩ = some (.int .i64 d) := (obj_cell hb2 1).trans rfl
  have x2 : w2.cell? ⟨w.heap.size, 2, none⟩ = some (.int .i64 a) := (obj_cell hb2 2).trans rfl
  have x3 : w2.cell? ⟨w.heap.size, 3, none⟩ = some (.int .i64 b) := (obj_cell hb2 3).trans rfl
  have x4 : w2.cell? ⟨w.heap.size, 4, none⟩ = some (.int .i64 n) := (obj_cell hb2 4).trans rfl
  clear hb1 hb2 hB0 hB1 hB2 hBw hs1
  go_wp2
  go_ret2
  refine ⟨congrArg (fun z => Ending.returned (Value.tuple #[Value.int IntKind.u32 z, .int .i64 0])) ?_, ?_⟩
  · rw [HH.out, HZ0.out]
    rfl
  · first | exact hBx.alloc hBx.size _ | exact bdrewN (hBx.alloc hBx.size _) _
theorem rvEncode_bad (op rd a b n : Int) (w : World) (hR : RvRows w) (hr : rightI op rd a b n = false) : Calls Tryz.prog 63 #[.agg #[.int .i64 op, .int .i64 rd, .int .i64 a, .int .i64 b, .int .i64 n]] w fun e w' => e = .returned (.tuple #[.int .u32 0, .int .i64 11]) ∧ Below w.heap.size w w' := by
  have HCk := Lib.hid (fun W (hW : RvRows W) => rvCheck_any op rd a b n W hW)
  unfold CheckTo insE at HCk
  rw [hr] at HCk
  have hB0 : Below w.heap.size w (w.alloc (.cells #[.int .i64 op, .int .i64 rd, .int .i64 a, .int .i64 b, .int .i64 n] 26)) := form1 w _
  have hR0 := hR.below hB0
  clear hr hR
  go_enter Tryz.func63, Tryz.ntmps63
  go_wp2_with fail
  refine Calls.mono (HCk.out _ hR0) ?_
  rintro e w1 ⟨rfl, hB1⟩
  go_wp2
  go_ret2
  exact ⟨rfl, hB0.trans (hB1.mono hB0.size)⟩
def EncV (op rd a b n : Int) (w : World) (e : Ending) (w' : World) : Prop := e = .returned (.tuple #[.int .u32 (encZ op rd a b n : Int), .int .i64 (insE op rd a b n)]) ∧ Below w.heap.size w w'
theorem rvEncode_any (op rd a b n : Int) (w : World) (hR : RvRows w) : Calls Tryz.prog 63 #[.agg #[.int .i64 op, .int .i64 rd, .int .i64 a, .int .i64 b, .int .i64 n]] w (EncV op rd a b n w) := by
  unfold EncV encZ insE
  cases hr : rightI op rd a b n with
  | false => exact rvEncode_bad op rd a b n w hR hr
  | true =>
    obtain ⟨h1, h2, ⟨d1, d2⟩, ⟨a1, a2⟩, ⟨b1, b2⟩⟩ := rightI_rng hr
    obtain ⟨k, rfl⟩ : ∃ k : Nat, op = k := ⟨op.toNat, by omega⟩
    obtain ⟨d, rfl⟩ : ∃ k : Nat, rd = k := ⟨rd.toNat, by omega⟩
    obtain ⟨x, rfl⟩ : ∃ k : Nat, a = k := ⟨a.toNat, by omega⟩
    obtain ⟨y, rfl⟩ : ∃ k : Nat, b = k := ⟨b.toNat, by omega⟩
    have hi := rightI_imm hr
    have hl : (formR k).1 ∈ lettersL := formR_letter _
    have hrow := row_form k (by omega)
    have hbd := form_bounds k (by omega)
    have h0 := (has_eq k (by omega)).2.2.2 (by omega)
    simp only [formZ, Int.toNat_natCast, if_true]
    generalize hF : formR k = F at *
    obtain ⟨l, c, f3, f7⟩ := F
    simp only at h0 hrow hbd hl hi
    simp only [lettersL, List.mem_cons, List.not_mem_nil, or_false] at hl
    rcases hl with h | h | h | h | h | h | h | h | h | h
    · exact absurd h h0
    · exact enc_85 k d x y n (by omega) (by omega) (by omega) (by omega) l c f3 f7 (by rw [hrow, h]; rfl) hbd h hr (trivial) (by omega) w hR
    · exact enc_74 k d x y n (by omega) (by omega) (by omega) (by omega) l c f3 f7 (by rw [hrow, h]; rfl) hbd h hr (trivial) (by omega) w hR
    · exact enc_73 k d x y n (by omega) (by omega) (by omega) (by omega) l c f3 f7 (by rw [hrow, h]; rfl) hbd h hr (trivial) (by omega) w hR
    · exact enc_66 k d x y n (by omega) (by omega) (by omega) (by omega) l c f3 f7 (by rw [hrow, h]; rfl) hbd h hr (trivial) (by omega) w hR
    · exact enc_83 k d x y n (by omega) (by omega) (by omega) (by omega) l c f3 f7 (by rw [hrow, h]; rfl) hbd h hr (trivial) (by omega) w hR
    · exact enc_72 k d x y n (by omega) (by omega) (by omega) (by omega) l c f3 f7 (by rw [hrow, h]; rfl) hbd h hr (by rw [h] at hi; simp [immB1] at hi; omega) (by omega) w hR
    · exact enc_104 k d x y n (by omega) (by omega) (by omega) (by omega) l c f3 f7 (by rw [hrow, h]; rfl) hbd h hr (by rw [h] at hi; simp [immB1] at hi; omega) (by omega) w hR
    · exact enc_82 k d x y n (by omega) (by omega) (by omega) (by omega) l c f3 f7 (by rw [hrow, h]; rfl) hbd h hr (trivial) (by omega) w hR
    · exact enc_78 k d x y n (by omega) (by omega) (by omega) (by omega) l c f3 f7 (by rw [hrow, h]; rfl) hbd h hr (trivial) (by omega) w hR
end Go.Proofs
