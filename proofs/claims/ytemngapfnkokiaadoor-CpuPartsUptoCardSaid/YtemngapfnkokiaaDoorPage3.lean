/- patinalaw03.page, of the three words that small gives it. -/
import Derived.Test.YtemngapfnkokiaaDoorCpu
import Derived.Test.YtemngapfnkokiaaDoorBuf2
namespace Go.Pat
open Go Go.RowKit
def codeD : List UInt8 := [0x13, 0x05, 0x70, 0x00, 0x93, 0x08, 0xd0, 0x05, 0x73, 0, 0, 0]
/-- a page, of which so many bytes are written. -/
def cont (n : Nat) : List UInt8 := codeD.take n ++ List.replicate (4096 - n) 0
theorem cont_length (n : Nat) (h : n ≤ 12) : (cont n).length = 4096 := by
  simp only [cont, codeD, List.length_append, List.length_take, List.length_cons, List.length_nil, List.length_replicate]
  omega
theorem cont_zero : cont 0 = zeros := rfl
theorem cont_set (n : Nat) (h : n < 12) (c : UInt8) (hc : codeD[n]? = some c) : (cont n).set n c = cont (n + 1) := by
  have hl : (codeD.take n).length = n := by rw [List.length_take]; exact Nat.min_eq_left (Nat.le_of_lt h)
  unfold cont
  rw [List.set_append_right _ _ (by rw [hl]; exact Nat.le_refl n), hl, Nat.sub_self, show 4096 - n = (4096 - (n + 1)) + 1 by omega, List.replicate_succ, List.set_cons_zero, List.take_add_one, hc]
  simp
theorem made_bytes3 (n : Nat) : madeCells #[.int .u8 0] n = (bcells (List.replicate n 0)).toArray := by
  apply Array.ext
  · rw [size_madeCells]; simp [bcells]
  · intro i h1 h2
    simp [madeCells, bcells, bval, Nat.mod_one]
theorem zeroPage_list : zeroPage = (bcells zeros).toArray := by
  unfold zeroPage zeros
  exact made_bytes3 4096
end Go.Pat
namespace Go.Proofs
open Go Go.RowKit Go.Pat
theorem pgs_one (w : World) (b g : Nat) (perm : Int) (l : List UInt8) (base : Nat) (hb : w.heap[b]? = some (.cells #[.int .u64 (base : Int), .int .i64 perm, .slice (some ⟨g, 0, none⟩) l.length 4096] 135 (0, 0))) (hg : Buf w g l) (hbase : base < 18446744073709551616) (hl : l.length ≤ 140737488351232) (B : Nat) (hB : b < B ∧ g < B) :
    PgsAt B w (some ⟨b, 0, none⟩) [⟨base, perm, some ⟨g, 0, none⟩, 4096, l⟩] := by
  refine ⟨fun i hi => ?_, fun p hp => ?_, fun p hp => ?_, by simp⟩
  · obtain rfl : i = 0 := by simp at hi; omega
    exact ⟨b, 0, rfl, hB.1, (obj_cell hb 0).trans rfl, (obj_cell hb 1).trans rfl, (obj_cell hb 2).trans rfl⟩
  · simp only [List.mem_singleton] at hp
    subst hp
    exact hg.bs hB.2
  · simp only [List.mem_singleton] at hp
    subst hp
    exact ⟨hbase, hl⟩
/-- the walk. -/
theorem cont_next {w : World} {g n : Nat} (h : Buf w g (cont n)) (hn : n < 12) (c : UInt8) (hc : codeD[n]? = some c) : Buf (w.setCell ⟨g, n, none⟩ (.int .u8 (c.toNat : Int))) g (cont (n + 1)) := by
  rw [← cont_set n hn c hc]
  exact h.set n c
set_option maxRecDepth 20000 in
set_option maxHeartbeats 16000000 in
theorem page3_any (w : World) (g cap : Nat) (hg : w.heap[g]? = some (.cells #[.int .u32 7341331, .int .u32 97519763, .int .u32 115] 89 (0, 0))) :
    Calls Tryd.prog 61 #[.slice (some ⟨g, 0, none⟩) 3 cap] w fun e w' => ∃ b k : Nat, e = .returned (.slice (some ⟨b, 0, none⟩) 1 1) ∧ PgsAt w'.heap.size w' (some ⟨b, 0, none⟩) [⟨4096, 5, some ⟨k, 0, none⟩, 4096, cont 12⟩] ∧ Below w.heap.size w w' := by
  obtain ⟨Z, hZ⟩ : ∃ Z : Array Value, Z = zeroPage := ⟨_, rfl⟩
  have hmk : ∀ w, (Instr.makeSlice 42 (.int .i64 4096) (.int .i64 4096)).run Tryd.prog w = .ok (.slice (some ⟨w.heap.size, 0, none⟩) 4096 4096) (w.alloc (.cells Z 5)) := by rw [hZ]; exact run_makePage
  have hBz : Buf (w.alloc (.cells Z 5)) w.heap.size (cont 0) := by
    unfold Buf
    rw [cont_zero, ← zeroPage_list, ← hZ]
    exact heap_alloc_new w _
  have hgl := lt_of_block hg
  clear hZ
  have HG := Lib.hid hg
  clear hg
  go_enter Tryd.func61, Tryd.ntmps61
  go_wp2
  have hB0 : Below w.heap.size w (w.alloc (.cells Z 5)) := (Below.refl _ _).alloc (Nat.le_refl _) _
  go_loopw [10] (fun i wr => ∃ k : Nat, k ≤ 3 ∧ i = .int .i64 k ∧ Buf wr w.heap.size (cont (4 * k)) ∧ Below w.heap.size w wr) (fun i _ => 3 - (intOf i).toNat)
  case atStart => exact ⟨0, by omega, rfl, hBz, hB0⟩
  case round =>
    clear hBz hB0 hmk
    obtain ⟨k, hk, rfl, hbuf, hB⟩ := hrel
    have hk' : k = 0 ∨ k = 1 ∨ k = 2 ∨ k = 3 := by omega
    have hgr : wr.heap[g]? = some (.cells #[.int .u32 7341331, .int .u32 97519763, .int .u32 115] 89 (0, 0)) := (hB.block g hgl).trans HG.out
    rcases hk' with rfl | rfl | rfl | rfl
    · have hc : wr.cell? ⟨g, 0, none⟩ = some (.int .u32 7341331) := (obj_cell hgr 0).trans rfl
      clear hgr hk
      go_wp2
      go_loopw [6] (fun i wr => ∃ j : Nat, j ≤ 4 ∧ i = .int .i64 j ∧ Buf wr w.heap.size (cont (0 + j)) ∧ Below w.heap.size w wr) (fun i _ => 4 - (intOf i).toNat)
      case atStart => exact ⟨0, by omega, rfl, hbuf, hB⟩
      case round =>
        clear hbuf hB hc
        obtain ⟨j, hj, rfl, hbuf, hB⟩ := hrel
        have hj' : j = 0 ∨ j = 1 ∨ j = 2 ∨ j = 3 ∨ j = 4 := by omega
        clear hj
        rcases hj' with rfl | rfl | rfl | rfl | rfl
        · have fz := hbuf.frozen 0
          have hce := hbuf.cell 0 (by rw [cont_length _ (by omega)]; omega)
          go_wp2
          go_roundw
          case rel => exact ⟨1, by omega, rfl, cont_next hbuf (by omega) 19 rfl, hB.setCell (Nat.le_refl _) _⟩
          case measure => simp [intOf]
        · have fz := hbuf.frozen 1
          have hce := hbuf.cell 1 (by rw [cont_length _ (by omega)]; omega)
          go_wp2
          go_roundw
          case rel => exact ⟨2, by omega, rfl, cont_next hbuf (by omega) 5 rfl, hB.setCell (Nat.le_refl _) _⟩
          case measure => simp [intOf]
        · have fz := hbuf.frozen 2
          have hce := hbuf.cell 2 (by rw [cont_length _ (by omega)]; omega)
          go_wp2
          go_roundw
          case rel => exact ⟨3, by omega, rfl, cont_next hbuf (by omega) 112 rfl, hB.setCell (Nat.le_refl _) _⟩
          case measure => simp [intOf]
        · have fz := hbuf.frozen 3
          have hce := hbuf.cell 3 (by rw [cont_length _ (by omega)]; omega)
          go_wp2
          go_roundw
          case rel => exact ⟨4, by omega, rfl, cont_next hbuf (by omega) 0 rfl, hB.setCell (Nat.le_refl _) _⟩
          case measure => simp [intOf]
        · go_wp2
          go_roundw
          case rel => exact ⟨1, by omega, rfl, hbuf, hB⟩
          case measure => simp [intOf]
    · have hc : wr.cell? ⟨g, 1, none⟩ = some (.int .u32 97519763) := (obj_cell hgr 1).trans rfl
      clear hgr hk
      go_wp2
      go_loopw [6] (fun i wr => ∃ j : Nat, j ≤ 4 ∧ i = .int .i64 j ∧ Buf wr w.heap.size (cont (4 + j)) ∧ Below w.heap.size w wr) (fun i _ => 4 - (intOf i).toNat)
      case atStart => exact ⟨0, by omega, rfl, hbuf, hB⟩
      case round =>
        clear hbuf hB hc
        obtain ⟨j, hj, rfl, hbuf, hB⟩ := hrel
        have hj' : j = 0 ∨ j = 1 ∨ j = 2 ∨ j = 3 ∨ j = 4 := by omega
        clear hj
        rcases hj' with rfl | rfl | rfl | rfl | rfl
        · have fz := hbuf.frozen 4
          have hce := hbuf.cell 4 (by rw [cont_length _ (by omega)]; omega)
          go_wp2
          go_roundw
          case rel => exact ⟨1, by omega, rfl, cont_next hbuf (by omega) 147 rfl, hB.setCell (Nat.le_refl _) _⟩
          case measure => simp [intOf]
        · have fz := hbuf.frozen 5
          have hce := hbuf.cell 5 (by rw [cont_length _ (by omega)]; omega)
          go_wp2
          go_roundw
          case rel => exact ⟨2, by omega, rfl, cont_next hbuf (by omega) 8 rfl, hB.setCell (Nat.le_refl _) _⟩
          case measure => simp [intOf]
        · have fz := hbuf.frozen 6
          have hce := hbuf.cell 6 (by rw [cont_length _ (by omega)]; omega)
          go_wp2
          go_roundw
          case rel => exact ⟨3, by omega, rfl, cont_next hbuf (by omega) 208 rfl, hB.setCell (Nat.le_refl _) _⟩
          case measure => simp [intOf]
        · have fz := hbuf.frozen 7
          have hce := hbuf.cell 7 (by rw [cont_length _ (by omega)]; omega)
          go_wp2
          go_roundw
          case rel => exact ⟨4, by omega, rfl, cont_next hbuf (by omega) 5 rfl, hB.setCell (Nat.le_refl _) _⟩
          case measure => simp [intOf]
        · go_wp2
          go_roundw
          case rel => exact ⟨2, by omega, rfl, hbuf, hB⟩
          case measure => simp [intOf]
    · have hc : wr.cell? ⟨g, 2, none⟩ = some (.int .u32 115) := (obj_cell hgr 2).trans rfl
      clear hgr hk
      go_wp2
      go_loopw [6] (fun i wr => ∃ j : Nat, j ≤ 4 ∧ i = .int .i64 j ∧ Buf wr w.heap.size (cont (8 + j)) ∧ Below w.heap.size w wr) (fun i _ => 4 - (intOf i).toNat)
      case atStart => exact ⟨0, by omega, rfl, hbuf, hB⟩
      case round =>
        clear hbuf hB hc
        obtain ⟨j, hj, rfl, hbuf, hB⟩ := hrel
        have hj' : j = 0 ∨ j = 1 ∨ j = 2 ∨ j = 3 ∨ j = 4 := by omega
        clear hj
        rcases hj' with rfl | rfl | rfl | rfl | rfl
        · have fz := hbuf.frozen 8
          have hce := hbuf.cell 8 (by rw [cont_length _ (by omega)]; omega)
          go_wp2
          go_roundw
          case rel => exact ⟨1, by omega, rfl, cont_next hbuf (by omega) 115 rfl, hB.setCell (Nat.le_refl _) _⟩
          case measure => simp [intOf]
        · have fz := hbuf.frozen 9
          have hce := hbuf.cell 9 (by rw [cont_length _ (by omega)]; omega)
          go_wp2
          go_roundw
          case rel => exact ⟨2, by omega, rfl, cont_next hbuf (by omega) 0 rfl, hB.setCell (Nat.le_refl _) _⟩
          case measure => simp [intOf]
        · have fz := hbuf.frozen 10
          have hce := hbuf.cell 10 (by rw [cont_length _ (by omega)]; omega)
          go_wp2
          go_roundw
          case rel => exact ⟨3, by omega, rfl, cont_next hbuf (by omega) 0 rfl, hB.setCell (Nat.le_refl _) _⟩
          case measure => simp [intOf]
        · have fz := hbuf.frozen 11
          have hce := hbuf.cell 11 (by rw [cont_length _ (by omega)]; omega)
          go_wp2
          go_roundw
          case rel => exact ⟨4, by omega, rfl, cont_next hbuf (by omega) 0 rfl, hB.setCell (Nat.le_refl _) _⟩
          case measure => simp [intOf]
        · go_wp2
          go_roundw
          case rel => exact ⟨3, by omega, rfl, hbuf, hB⟩
          case measure => simp [intOf]
    · clear hgr
      go_wp2
      go_ret
      refine ⟨wr.heap.size, w.heap.size, rfl, ?_, hB.alloc hB.size _⟩
      have hbuf' : Buf (wr.alloc (.cells #[.int .u64 ((4096 : Nat) : Int), .int .i64 5, .slice (some ⟨w.heap.size, 0, none⟩) (cont 12).length 4096] 135)) w.heap.size (cont 12) := hbuf.below ((Below.refl _ _).alloc (Nat.le_refl _) _)
      have hl12 : (cont 12).length = 4096 := cont_length 12 (by omega)
      have hnew := heap_alloc_new wr (.cells #[.int .u64 ((4096 : Nat) : Int), .int .i64 5, .slice (some ⟨w.heap.size, 0, none⟩) (cont 12).length 4096] 135)
      have hP := pgs_one _ wr.heap.size w.heap.size 5 (cont 12) 4096 hnew hbuf' (by omega) (by omega) (wr.heap.size + 1) ⟨Nat.lt_succ_self _, Nat.lt_succ_of_lt hbuf.lt⟩
      rw [hl12] at hP
      rw [World.size_alloc]
      exact hP
end Go.Proofs
