/- patinalaw04.same: are two images the same? -/
import Derived.Test.YtkgnodlhdilmoaaPb
import Derived.Test.YtkgnodlhdilmoaaElfD
import Derived.Test.YtkgnodlhdilmoaaSpk
namespace Go.Pat
open Go Go.RowKit
instance : DecidableEq Sgd := fun a b => by
  cases a; cases b
  simp only [Sgd.mk.injEq]
  infer_instance
end Go.Pat
namespace Go.Proofs
open Go Go.RowKit Go.Pat

theorem same_no {s1 s2 : List Sg} {j : Nat} {x y : Sg} (h1 : s1[j]? = some x) (h2 : s2[j]? = some y) (hne : x.d ≠ y.d) : decide (s1.map Sg.d = s2.map Sg.d) = false := decide_eq_false fun h => hne (by
  have h3 : (s1.map Sg.d)[j]? = (s2.map Sg.d)[j]? := by rw [h]
  rw [List.getElem?_map, List.getElem?_map, h1, h2] at h3
  exact Option.some.inj h3)
set_option maxRecDepth 20000 in
set_option maxHeartbeats 4000000 in
theorem same4_any (w : World) (A1 A2 : Option Addr) (c1 c2 e1 e2 n1 n2 : Nat) (s1 s2 : List Sg) (h1 : SgsAt w.heap.size w A1 s1) (h2 : SgsAt w.heap.size w A2 s2) (hn1 : s1.length = n1) (hn2 : s2.length = n2) :
    Calls Try.prog 23 #[.agg #[.int .u64 e1, .slice A1 n1 c1], .agg #[.int .u64 e2, .slice A2 n2 c2]] w fun e w' =>
      e = .returned (.bool (decide (e1 = e2 ∧ s1.map Sg.d = s2.map Sg.d))) ∧ Below w.heap.size w w' := by
  go_enter Try.func23, Try.ntmps23
  have HN := Lib.hid (And.intro hn1 hn2)
  clear hn1 hn2
  by_cases he : e1 = e2
  · subst he
    by_cases hl : n1 = n2
    · subst hl
      obtain ⟨n, rfl⟩ : ∃ n, n = n1 := ⟨_, rfl⟩
      have hfew := h1.few
      rw [HN.out.1] at hfew
      have t1 : ((e1 : Int) != (e1 : Int)) = false := by simp
      have t2 : ((n : Int) != (n : Int)) = false := by simp
      have hb0 : Below w.heap.size w ((w.alloc (.cells #[.int .u64 e1, .slice A1 n c1] 38)).alloc (.cells #[.int .u64 e1, .slice A2 n c2] 38)) := ((Below.refl _ _).alloc (Nat.le_refl _) _).alloc (by rw [World.size_alloc]; omega) _
      have hi1 : ((w.alloc (.cells #[.int .u64 e1, .slice A1 n c1] 38)).alloc (.cells #[.int .u64 e1, .slice A2 n c2] 38)).heap[w.heap.size]? = some (.cells #[.int .u64 e1, .slice A1 n c1] 38 (0, 0)) := obj_alloc (heap_alloc_new w _)
      have hi2 : ((w.alloc (.cells #[.int .u64 e1, .slice A1 n c1] 38)).alloc (.cells #[.int .u64 e1, .slice A2 n c2] 38)).heap[w.heap.size + 1]? = some (.cells #[.int .u64 e1, .slice A2 n c2] 38 (0, 0)) := by
        have := heap_alloc_new (w.alloc (.cells #[.int .u64 e1, .slice A1 n c1] 38)) (.cells #[.int .u64 e1, .slice A2 n c2] 38)
        rwa [World.size_alloc] at this
      obtain ⟨W0, hW0⟩ : ∃ W : World, W = ((w.alloc (.cells #[.int .u64 e1, .slice A1 n c1] 38)).alloc (.cells #[.int .u64 e1, .slice A2 n c2] 38)) := ⟨_, rfl⟩
      rw [← hW0] at hb0 hi1 hi2
      have HW := Lib.hid hW0
      clear hW0
      go_wp2_with fail
      rw [← HW.out]
      clear HW
      have hs0 : w.heap.size + 1 < W0.heap.size := lt_of_block hi2
      have hP1 := h1.below hb0
      have hP2 := h2.below hb0
      go_loopw [5] (fun i wr => ∃ j : Nat, j ≤ n ∧ i = .int .i64 j ∧ (∀ k, k < j → (s1.map Sg.d)[k]? = (s2.map Sg.d)[k]?) ∧ Below W0.heap.size W0 wr) (fun i _ => n - (intOf i).toNat)
      case atStart => exact ⟨0, by omega, rfl, fun k hk => by omega, Below.refl _ _⟩
      case round =>
        obtain ⟨j, hj, rfl, hsame, hB⟩ := hrel
        have hr1 := (hB.block _ (by omega)).trans hi1
        have hr2 := (hB.block _ hs0).trans hi2
        have hP1j := h1.below (hb0.trans (hB.mono hb0.size))
        have hP2j := h2.below (hb0.trans (hB.mono hb0.size))
        have j1 := obj_cell hr1 1
        have j2 := obj_cell hr2 1
        by_cases hlt : j < n
        · have hd3 : decide ((j : Int) < (n : Int)) = true := decide_eq_true (by omega)
          have hji : (j : Int) < (n : Int) := by omega
          obtain ⟨b1, o1, rfl, hb1, p0, p1, p2, p3⟩ := hP1j.cells j (by rw [HN.out.1]; exact hlt)
          obtain ⟨b2, o2, rfl, hb2, q0, q1, q2, q3⟩ := hP2j.cells j (by rw [HN.out.2]; exact hlt)
          have hj1 : j < s1.length := by rw [HN.out.1]; exact hlt
          have hj2 : j < s2.length := by rw [HN.out.2]; exact hlt
          obtain ⟨x, hx⟩ : ∃ x, x = s1[j] := ⟨_, rfl⟩
          obtain ⟨y, hy⟩ : ∃ y, y = s2[j] := ⟨_, rfl⟩
          rw [← hx] at p0 p1 p2 p3
          rw [← hy] at q0 q1 q2 q3
          have hbx := h1.bytes x (by rw [hx]; exact List.getElem_mem _)
          have hby := h2.bytes y (by rw [hy]; exact List.getElem_mem _)
          have HX := Lib.hid (show s1[j]? = some x ∧ s2[j]? = some y from ⟨by rw [hx]; exact List.getElem?_eq_getElem hj1, by rw [hy]; exact List.getElem?_eq_getElem hj2⟩)
          clear hx hy hj1 hj2
          have hb1r : b1 < wr.heap.size := Nat.lt_of_lt_of_le hb1 (Nat.le_trans hb0.size hB.size)
          have hb2r : b2 < wr.heap.size := Nat.lt_of_lt_of_le hb2 (Nat.le_trans hb0.size hB.size)
          go_wp2_with fail
          have hF : ∀ W' : World, Below wr.heap.size wr W' → W'.cell? ⟨w.heap.size, 1, none⟩ = some (.slice (some ⟨b1, o1, none⟩) n c1) ∧ W'.cell? ⟨w.heap.size + 1, 1, none⟩ = some (.slice (some ⟨b2, o2, none⟩) n c2) ∧
              W'.cell? ⟨b1, o1 + j * 4, none⟩ = some (.int .u64 (x.addr : Int)) ∧ W'.cell? ⟨b1, o1 + j * 4 + 1, none⟩ = some (.int .i64 x.perm) ∧ W'.cell? ⟨b1, o1 + j * 4 + 2, none⟩ = some (.slice x.A x.data.length x.cap) ∧ W'.cell? ⟨b1, o1 + j * 4 + 3, none⟩ = some (.int .u64 (x.size : Int)) ∧
              W'.cell? ⟨b2, o2 + j * 4, none⟩ = some (.int .u64 (y.addr : Int)) ∧ W'.cell? ⟨b2, o2 + j * 4 + 1, none⟩ = some (.int .i64 y.perm) ∧ W'.cell? ⟨b2, o2 + j * 4 + 2, none⟩ = some (.slice y.A y.data.length y.cap) ∧ W'.cell? ⟨b2, o2 + j * 4 + 3, none⟩ = some (.int .u64 (y.size : Int)) := fun W' hb =>
            ⟨(hb.cell (p := ⟨w.heap.size, 1, none⟩) (lt_of_block hr1)).trans j1, (hb.cell (p := ⟨w.heap.size + 1, 1, none⟩) (lt_of_block hr2)).trans j2,
             (hb.cell (p := ⟨b1, _, none⟩) hb1r).trans p0, (hb.cell (p := ⟨b1, _, none⟩) hb1r).trans p1, (hb.cell (p := ⟨b1, _, none⟩) hb1r).trans p2, (hb.cell (p := ⟨b1, _, none⟩) hb1r).trans p3,
             (hb.cell (p := ⟨b2, _, none⟩) hb2r).trans q0, (hb.cell (p := ⟨b2, _, none⟩) hb2r).trans q1, (hb.cell (p := ⟨b2, _, none⟩) hb2r).trans q2, (hb.cell (p := ⟨b2, _, none⟩) hb2r).trans q3⟩
          have hBr2 : ∀ W2 : World, Below W0.heap.size W0 W2 → Below w.heap.size w W2 := fun W2 h => hb0.trans (h.mono hb0.size)
          have HSM := Lib.hid hsame
          clear hsame
          go_region_held3 (fun W' => W'.cell? ⟨w.heap.size, 1, none⟩ = some (.slice (some ⟨b1, o1, none⟩) n c1) ∧ W'.cell? ⟨w.heap.size + 1, 1, none⟩ = some (.slice (some ⟨b2, o2, none⟩) n c2) ∧
              W'.cell? ⟨b1, o1 + j * 4, none⟩ = some (.int .u64 (x.addr : Int)) ∧ W'.cell? ⟨b1, o1 + j * 4 + 1, none⟩ = some (.int .i64 x.perm) ∧ W'.cell? ⟨b1, o1 + j * 4 + 2, none⟩ = some (.slice x.A x.data.length x.cap) ∧ W'.cell? ⟨b1, o1 + j * 4 + 3, none⟩ = some (.int .u64 (x.size : Int)) ∧
              W'.cell? ⟨b2, o2 + j * 4, none⟩ = some (.int .u64 (y.addr : Int)) ∧ W'.cell? ⟨b2, o2 + j * 4 + 1, none⟩ = some (.int .i64 y.perm) ∧ W'.cell? ⟨b2, o2 + j * 4 + 2, none⟩ = some (.slice y.A y.data.length y.cap) ∧ W'.cell? ⟨b2, o2 + j * 4 + 3, none⟩ = some (.int .u64 (y.size : Int)))
            (first | exact hF _ (Below.refl _ _).drew | exact hF _ ((Below.refl _ _).alloc (Nat.le_refl _) _).drew | exact hF _ (((Below.refl _ _).alloc (Nat.le_refl _) _).alloc (by rw [World.size_alloc]; exact Nat.le_succ _) _).drew)
            (fail)
          · have hB2 : Below W0.heap.size W0 ((wr.alloc (.cells #[.int .u64 (x.addr : Int), .int .i64 x.perm, .slice x.A x.data.length x.cap, .int .u64 (x.size : Int)] 73)).alloc (.cells #[.int .u64 (y.addr : Int), .int .i64 y.perm, .slice y.A y.data.length y.cap, .int .u64 (y.size : Int)] 73)).drew := ((hB.alloc hB.size _).alloc (by rw [World.size_alloc]; exact Nat.le_succ_of_le hB.size) _).drew
            have hF : ((wr.alloc (.cells #[.int .u64 (x.addr : Int), .int .i64 x.perm, .slice x.A x.data.length x.cap, .int .u64 (x.size : Int)] 73)).alloc (.cells #[.int .u64 (y.addr : Int), .int .i64 y.perm, .slice y.A y.data.length y.cap, .int .u64 (y.size : Int)] 73)).drew.heap[wr.heap.size]? = some (.cells #[.int .u64 (x.addr : Int), .int .i64 x.perm, .slice x.A x.data.length x.cap, .int .u64 (x.size : Int)] 73) := obj_alloc (heap_alloc_new wr _)
            have hS : ((wr.alloc (.cells #[.int .u64 (x.addr : Int), .int .i64 x.perm, .slice x.A x.data.length x.cap, .int .u64 (x.size : Int)] 73)).alloc (.cells #[.int .u64 (y.addr : Int), .int .i64 y.perm, .slice y.A y.data.length y.cap, .int .u64 (y.size : Int)] 73)).drew.heap[wr.heap.size + 1]? = some (.cells #[.int .u64 (y.addr : Int), .int .i64 y.perm, .slice y.A y.data.length y.cap, .int .u64 (y.size : Int)] 73) := by
              have := heap_alloc_new (wr.alloc (.cells #[.int .u64 (x.addr : Int), .int .i64 x.perm, .slice x.A x.data.length x.cap, .int .u64 (x.size : Int)] 73)) (.cells #[.int .u64 (y.addr : Int), .int .i64 y.perm, .slice y.A y.data.length y.cap, .int .u64 (y.size : Int)] 73)
              rw [World.size_alloc] at this
              exact this
            obtain ⟨W2, hW2⟩ : ∃ W : World, W = ((wr.alloc (.cells #[.int .u64 (x.addr : Int), .int .i64 x.perm, .slice x.A x.data.length x.cap, .int .u64 (x.size : Int)] 73)).alloc (.cells #[.int .u64 (y.addr : Int), .int .i64 y.perm, .slice y.A y.data.length y.cap, .int .u64 (y.size : Int)] 73)).drew := ⟨_, rfl⟩
            rw [← hW2] at hB2 hF hS ⊢
            clear hW2
            have f0 := obj_cell hF 0
            have f1 := obj_cell hF 1
            have f2 := obj_cell hF 2
            have f3 := obj_cell hF 3
            have s0 := obj_cell hS 0
            have s1' := obj_cell hS 1
            have s2' := obj_cell hS 2
            have s3 := obj_cell hS 3
            have hbx2 := hbx.below (hBr2 W2 hB2)
            have hby2 := hby.below (hBr2 W2 hB2)
            have hBw := hb0.trans (hB2.mono hb0.size)
            by_cases ha : x.addr = y.addr
            · have ta : ((x.addr : Int) != (y.addr : Int)) = false := by simp only [bne_eq_false_iff_eq]; omega
              by_cases hp : x.perm = y.perm
              · have tp : (x.perm != y.perm) = false := by simp only [bne_eq_false_iff_eq]; exact hp
                by_cases hs : x.size = y.size
                · have ts : ((x.size : Int) != (y.size : Int)) = false := by simp only [bne_eq_false_iff_eq]; omega
                  have HE := Lib.hid (And.intro ha (And.intro hp hs))
                  clear ha hp hs
                  go_wp2_with fail
                  refine Calls.mono (pBytes_any W2 x.A y.A x.data.length y.data.length x.cap y.cap _ _ x.data y.data hbx2 hby2 rfl rfl) ?_
                  rintro e w' ⟨rfl, rfl⟩
                  by_cases hd : x.data = y.data
                  · have td : (x.data == y.data) = true := by rw [hd]; simp
                    have hxy : x.d = y.d := by unfold Sg.d; rw [HE.out.1, HE.out.2.1, HE.out.2.2, hd]
                    have HD := Lib.hid (show ∀ k, k < j + 1 → (s1.map Sg.d)[k]? = (s2.map Sg.d)[k]? from fun k hk => by
                      by_cases e : k = j
                      · rw [e, List.getElem?_map, List.getElem?_map, HX.out.1, HX.out.2]; exact congrArg some hxy
                      · exact HSM.out k (by omega))
                    rw [td]
                    clear hd hxy td
                    go_wp2
                    go_roundw
                    case rel => exact ⟨j + 1, by omega, by go_num, HD.out, hB2⟩
                    case measure => simp [intOf]; omega
                  · have td : (x.data == y.data) = false := beq_eq_false_iff_ne.2 hd
                    have HN2 := Lib.hid (same_no HX.out.1 HX.out.2 (fun h => hd (congrArg Sgd.data h)))
                    rw [td]
                    clear hd td
                    go_wp2
                    go_ret
                    exact ⟨congrArg (fun b => Ending.returned (.bool b)) HN2.out.symm, hBw⟩
                · have ts : ((x.size : Int) != (y.size : Int)) = true := by simp only [bne_iff_ne]; omega
                  have HN2 := Lib.hid (same_no HX.out.1 HX.out.2 (fun h => hs (congrArg Sgd.size h)))
                  clear hs ha hp
                  go_wp2
                  go_ret
                  exact ⟨congrArg (fun b => Ending.returned (.bool b)) HN2.out.symm, hBw⟩
              · have tp : (x.perm != y.perm) = true := by simp only [bne_iff_ne]; exact hp
                have HN2 := Lib.hid (same_no HX.out.1 HX.out.2 (fun h => hp (congrArg Sgd.perm h)))
                clear hp ha
                go_wp2
                go_ret
                exact ⟨congrArg (fun b => Ending.returned (.bool b)) HN2.out.symm, hBw⟩
            · have ta : ((x.addr : Int) != (y.addr : Int)) = true := by simp only [bne_iff_ne]; omega
              have HN2 := Lib.hid (same_no HX.out.1 HX.out.2 (fun h => ha (congrArg Sgd.addr h)))
              clear ha
              go_wp2
              go_ret
              exact ⟨congrArg (fun b => Ending.returned (.bool b)) HN2.out.symm, hBw⟩
          · have hB2 : Below W0.heap.size W0 ((wr.alloc (.cells #[.int .u64 (y.addr : Int), .int .i64 y.perm, .slice y.A y.data.length y.cap, .int .u64 (y.size : Int)] 73)).alloc (.cells #[.int .u64 (x.addr : Int), .int .i64 x.perm, .slice x.A x.data.length x.cap, .int .u64 (x.size : Int)] 73)).drew := ((hB.alloc hB.size _).alloc (by rw [World.size_alloc]; exact Nat.le_succ_of_le hB.size) _).drew
            have hF : ((wr.alloc (.cells #[.int .u64 (y.addr : Int), .int .i64 y.perm, .slice y.A y.data.length y.cap, .int .u64 (y.size : Int)] 73)).alloc (.cells #[.int .u64 (x.addr : Int), .int .i64 x.perm, .slice x.A x.data.length x.cap, .int .u64 (x.size : Int)] 73)).drew.heap[wr.heap.size]? = some (.cells #[.int .u64 (y.addr : Int), .int .i64 y.perm, .slice y.A y.data.length y.cap, .int .u64 (y.size : Int)] 73) := obj_alloc (heap_alloc_new wr _)
            have hS : ((wr.alloc (.cells #[.int .u64 (y.addr : Int), .int .i64 y.perm, .slice y.A y.data.length y.cap, .int .u64 (y.size : Int)] 73)).alloc (.cells #[.int .u64 (x.addr : Int), .int .i64 x.perm, .slice x.A x.data.length x.cap, .int .u64 (x.size : Int)] 73)).drew.heap[wr.heap.size + 1]? = some (.cells #[.int .u64 (x.addr : Int), .int .i64 x.perm, .slice x.A x.data.length x.cap, .int .u64 (x.size : Int)] 73) := by
              have := heap_alloc_new (wr.alloc (.cells #[.int .u64 (y.addr : Int), .int .i64 y.perm, .slice y.A y.data.length y.cap, .int .u64 (y.size : Int)] 73)) (.cells #[.int .u64 (x.addr : Int), .int .i64 x.perm, .slice x.A x.data.length x.cap, .int .u64 (x.size : Int)] 73)
              rw [World.size_alloc] at this
              exact this
            obtain ⟨W2, hW2⟩ : ∃ W : World, W = ((wr.alloc (.cells #[.int .u64 (y.addr : Int), .int .i64 y.perm, .slice y.A y.data.length y.cap, .int .u64 (y.size : Int)] 73)).alloc (.cells #[.int .u64 (x.addr : Int), .int .i64 x.perm, .slice x.A x.data.length x.cap, .int .u64 (x.size : Int)] 73)).drew := ⟨_, rfl⟩
            rw [← hW2] at hB2 hF hS ⊢
            clear hW2
            have f0 := obj_cell hF 0
            have f1 := obj_cell hF 1
            have f2 := obj_cell hF 2
            have f3 := obj_cell hF 3
            have s0 := obj_cell hS 0
            have s1' := obj_cell hS 1
            have s2' := obj_cell hS 2
            have s3 := obj_cell hS 3
            have hbx2 := hbx.below (hBr2 W2 hB2)
            have hby2 := hby.below (hBr2 W2 hB2)
            have hBw := hb0.trans (hB2.mono hb0.size)
            by_cases ha : x.addr = y.addr
            · have ta : ((x.addr : Int) != (y.addr : Int)) = false := by simp only [bne_eq_false_iff_eq]; omega
              by_cases hp : x.perm = y.perm
              · have tp : (x.perm != y.perm) = false := by simp only [bne_eq_false_iff_eq]; exact hp
                by_cases hs : x.size = y.size
                · have ts : ((x.size : Int) != (y.size : Int)) = false := by simp only [bne_eq_false_iff_eq]; omega
                  have HE := Lib.hid (And.intro ha (And.intro hp hs))
                  clear ha hp hs
                  go_wp2_with fail
                  refine Calls.mono (pBytes_any W2 x.A y.A x.data.length y.data.length x.cap y.cap _ _ x.data y.data hbx2 hby2 rfl rfl) ?_
                  rintro e w' ⟨rfl, rfl⟩
                  by_cases hd : x.data = y.data
                  · have td : (x.data == y.data) = true := by rw [hd]; simp
                    have hxy : x.d = y.d := by unfold Sg.d; rw [HE.out.1, HE.out.2.1, HE.out.2.2, hd]
                    have HD := Lib.hid (show ∀ k, k < j + 1 → (s1.map Sg.d)[k]? = (s2.map Sg.d)[k]? from fun k hk => by
                      by_cases e : k = j
                      · rw [e, List.getElem?_map, List.getElem?_map, HX.out.1, HX.out.2]; exact congrArg some hxy
                      · exact HSM.out k (by omega))
                    rw [td]
                    clear hd hxy td
                    go_wp2
                    go_roundw
                    case rel => exact ⟨j + 1, by omega, by go_num, HD.out, hB2⟩
                    case measure => simp [intOf]; omega
                  · have td : (x.data == y.data) = false := beq_eq_false_iff_ne.2 hd
                    have HN2 := Lib.hid (same_no HX.out.1 HX.out.2 (fun h => hd (congrArg Sgd.data h)))
                    rw [td]
                    clear hd td
                    go_wp2
                    go_ret
                    exact ⟨congrArg (fun b => Ending.returned (.bool b)) HN2.out.symm, hBw⟩
                · have ts : ((x.size : Int) != (y.size : Int)) = true := by simp only [bne_iff_ne]; omega
                  have HN2 := Lib.hid (same_no HX.out.1 HX.out.2 (fun h => hs (congrArg Sgd.size h)))
                  clear hs ha hp
                  go_wp2
                  go_ret
                  exact ⟨congrArg (fun b => Ending.returned (.bool b)) HN2.out.symm, hBw⟩
              · have tp : (x.perm != y.perm) = true := by simp only [bne_iff_ne]; exact hp
                have HN2 := Lib.hid (same_no HX.out.1 HX.out.2 (fun h => hp (congrArg Sgd.perm h)))
                clear hp ha
                go_wp2
                go_ret
                exact ⟨congrArg (fun b => Ending.returned (.bool b)) HN2.out.symm, hBw⟩
            · have ta : ((x.addr : Int) != (y.addr : Int)) = true := by simp only [bne_iff_ne]; omega
              have HN2 := Lib.hid (same_no HX.out.1 HX.out.2 (fun h => ha (congrArg Sgd.addr h)))
              clear ha
              go_wp2
              go_ret
              exact ⟨congrArg (fun b => Ending.returned (.bool b)) HN2.out.symm, hBw⟩
        · have hd3 : decide ((j : Int) < (n : Int)) = false := decide_eq_false (by omega)
          obtain rfl : j = n := by omega
          have HT := Lib.hid (show decide (s1.map Sg.d = s2.map Sg.d) = true from decide_eq_true (List.ext_getElem? fun k => by
            by_cases hk : k < j
            · exact hsame k hk
            · rw [List.getElem?_eq_none (by rw [List.length_map, HN.out.1]; omega), List.getElem?_eq_none (by rw [List.length_map, HN.out.2]; omega)]))
          clear hsame
          go_wp2
          go_ret
          exact ⟨congrArg (fun b => Ending.returned (.bool b)) HT.out.symm, hb0.trans (hB.mono hb0.size)⟩
    · have t1 : ((e1 : Int) != (e1 : Int)) = false := by simp
      have t2 : ((n1 : Int) != (n2 : Int)) = true := by simp only [bne_iff_ne]; omega
      have HT := Lib.hid (show decide (s1.map Sg.d = s2.map Sg.d) = false from decide_eq_false fun h => hl (by have := congrArg List.length h; rw [List.length_map, List.length_map, HN.out.1, HN.out.2] at this; exact this))
      clear hl
      go_wp2
      go_ret
      exact ⟨congrArg (fun b => Ending.returned (.bool b)) HT.out.symm, ((Below.refl _ _).alloc (Nat.le_refl _) _).alloc (by rw [World.size_alloc]; omega) _⟩
  · have t1 : ((e1 : Int) != (e2 : Int)) = true := by simp only [bne_iff_ne]; omega
    have HT := Lib.hid (show decide (e1 = e2 ∧ s1.map Sg.d = s2.map Sg.d) = false from decide_eq_false fun ⟨h, _⟩ => he h)
    clear he
    go_wp2
    go_ret
    exact ⟨congrArg (fun b => Ending.returned (.bool b)) HT.out.symm, ((Below.refl _ _).alloc (Nat.le_refl _) _).alloc (by rw [World.size_alloc]; omega) _⟩
end Go.Proofs
