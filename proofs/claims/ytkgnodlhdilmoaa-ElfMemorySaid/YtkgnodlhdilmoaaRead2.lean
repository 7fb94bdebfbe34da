/- patinaref04.Read: the same as elf.Read. -/
import Derived.Test.YtkgnodlhdilmoaaSaid
import Derived.BigQuiet
namespace Go.Proofs
open Go Go.RowKit Go.Pat

set_option maxRecDepth 20000 in
set_option maxHeartbeats 8000000 in
theorem rRead4_any (w : World) (A : Option Addr) (cap len : Nat) (l : List UInt8) (hr : Bs w.heap.size w A l) (hl : l.length = len) (hlen : len ≤ 140737488351232) (hcap : len ≤ cap) :
    Calls Try.prog 22 #[.slice A len cap] w (ReadP w l) := by
  have hb0 : Below w.heap.size w (w.alloc (.cells #[.int .u64 0, .slice none 0 0] 38)) := (Below.refl _ _).alloc (Nat.le_refl _) _
  have hr0 := two_one w (.int .u64 0) (.slice none 0 0)
  by_cases h1 : len < 64
  · have HR := Lib.hid (show readE l = .bad len by unfold readE; rw [if_pos (by omega), hl])
    have hd : decide ((len : Int) < 64) = true := by simp; omega
    go_enter Try.func22, Try.ntmps22
    go_wp2
    refine bodyPost_ret (v := .tuple #[.agg #[.int .u64 0, .slice none 0 0], .int .i64 40, .int .i64 (len)]) (by simp [results, Try.results22, go_sem]) rfl ?_
    exact .inl ⟨_, HR.out, rfl, hb0⟩
  have hd1 : decide ((len : Int) < 64) = false := by simp; omega
  obtain ⟨n, hn⟩ : ∃ n, n = num l 56 2 := ⟨_, rfl⟩
  have hn16 : n < 65536 := by rw [hn]; exact num_lt l 56 2
  by_cases h2 : n < 1 ∨ 8 < n
  · have HR := Lib.hid (show readE l = .bad 56 by unfold readE; rw [if_neg (by omega), if_pos (by rw [← hn]; exact h2)])
    have HN := Lib.hid hn
    clear hn
    rcases (show (decide ((n : Int) < 1) = true) ∨ (decide ((n : Int) < 1) = false ∧ decide ((8 : Int) < (n : Int)) = true) by
      rcases h2 with h | h
      · exact .inl (decide_eq_true (by omega))
      · exact .inr ⟨decide_eq_false (by omega), decide_eq_true (by omega)⟩) with d1 | ⟨d1, d2⟩
    all_goals
      clear h2
      go_enter Try.func22, Try.ntmps22
      go_wp2_with fail
      refine Calls.mono (rread4_any _ A cap len 56 2 _ l (hr.below hb0) hl (by omega) (by omega) (by decide)) ?_
      rintro e w' ⟨rfl, rfl⟩
      rw [← HN.out]
      go_wp2
      refine bodyPost_ret (v := .tuple #[.agg #[.int .u64 0, .slice none 0 0], .int .i64 40, .int .i64 (56)]) (by simp [results, Try.results22, go_sem]) rfl ?_
      exact .inl ⟨_, HR.out, rfl, hb0⟩
  have d1 : decide ((n : Int) < 1) = false := decide_eq_false (by omega)
  have d2 : decide ((8 : Int) < (n : Int)) = false := decide_eq_false (by omega)
  by_cases h3 : len < 64 + 56 * n
  · have HR := Lib.hid (show readE l = .bad len by unfold readE; rw [if_neg (by omega), if_neg (by rw [← hn]; exact h2), if_pos (by rw [← hn, hl]; exact h3), hl])
    have HN := Lib.hid hn
    clear hn
    have d3 : decide ((len : Int) < 64 + 56 * (n : Int)) = true := decide_eq_true (by omega)
    go_enter Try.func22, Try.ntmps22
    go_wp2_with fail
    refine Calls.mono (rread4_any _ A cap len 56 2 _ l (hr.below hb0) hl (by omega) (by omega) (by decide)) ?_
    rintro e w' ⟨rfl, rfl⟩
    rw [← HN.out]
    go_wp2
    refine bodyPost_ret (v := .tuple #[.agg #[.int .u64 0, .slice none 0 0], .int .i64 40, .int .i64 (len)]) (by simp [results, Try.results22, go_sem]) rfl ?_
    exact .inl ⟨_, HR.out, rfl, hb0⟩
  have d3 : decide ((len : Int) < 64 + 56 * (n : Int)) = false := decide_eq_false (by omega)
  have hR3 : readE l = match saysT l n n with
    | .none => .bad l.length
    | .some ss _ =>
      if checkE (num l 24 8) ss ≠ 0 then .bad 64
      else match diffTo l (fileB (num l 24 8) ss) (min l.length (fileB (num l 24 8) ss).length) with
        | some k => .bad k
        | none => if l.length ≠ (fileB (num l 24 8) ss).length then .bad (min l.length (fileB (num l 24 8) ss).length) else .good (num l 24 8) ss := by
    unfold readE
    rw [if_neg (by omega), if_neg (by rw [← hn]; exact h2), if_neg (by rw [← hn, hl]; exact h3), ← hn]
    rfl
  have HN := Lib.hid hn
  have HR3 := Lib.hid hR3
  clear hn hR3
  go_enter Try.func22, Try.ntmps22
  go_wp2_with fail
  refine Calls.mono (rread4_any _ A cap len 56 2 _ l (hr.below hb0) hl (by omega) (by omega) (by decide)) ?_
  rintro e w' ⟨rfl, rfl⟩
  rw [← HN.out]
  go_wp2_with fail
  refine Calls.mono (rsaid4_any _ A cap len n l ((hr.below hb0).more hb0.size) hl hlen hcap (by omega) (by omega)) ?_
  intro e w1 hS
  rcases hS with ⟨hT, ⟨a, A2, m, c, rfl⟩, hB1⟩ | ⟨ss, ed, v, gs, hT, rfl, hown, hgs, hgl, hB1⟩
  · have HR := Lib.hid (show readE l = .bad len by rw [HR3.out, hT, hl])
    clear hT
    have hr1 := obj_alloc (o2 := .cells #[.int .u64 a, .slice A2 m c] 38) ((hB1.block _ (by rw [World.size_alloc]; omega)).trans hr0)
    have hBf := (hb0.trans (hB1.mono hb0.size)).alloc (Nat.le_trans hb0.size hB1.size) (.cells #[.int .u64 a, .slice A2 m c] 38)
    have j0 := obj_cell hr1 0
    have j1 := obj_cell hr1 1
    have j2 := obj_frozen hr1 0
    have j3 := obj_frozen hr1 1
    go_wp2
    refine bodyPost_ret (v := .tuple #[.agg #[.int .u64 0, .slice none 0 0], .int .i64 40, .int .i64 (len)]) (by simp [results, Try.results22, go_sem, set2_0 hr1, set2_1 hr1]) rfl ?_
    exact .inl ⟨_, HR.out, rfl, (hBf.setCell (p := ⟨w.heap.size, 0, none⟩) (Nat.le_refl _) _).setCell (p := ⟨w.heap.size, 1, none⟩) (Nat.le_refl _) _⟩
  · subst hgs
    subst hgl
    have hen := Nat.lt_of_lt_of_le (num_lt l 24 8) (show 256 ^ 8 ≤ 18446744073709551616 by decide)
    have hR4 := HR3.out
    rw [hT] at hR4
    simp only [] at hR4
    clear hT
    obtain ⟨en, hne⟩ : ∃ en, en = num l 24 8 := ⟨_, rfl⟩
    rw [← hne] at hen hR4 ⊢
    have HE := Lib.hid hne
    clear hne
    have hr1 := (hB1.block _ (by rw [World.size_alloc]; omega)).trans hr0
    obtain ⟨A2, c2, rfl, hSg⟩ := hown.sgs (by omega)
    have hBf := hb0.trans (hB1.mono hb0.size)
    have hb2 : Below w1.heap.size w1 (w1.alloc (.cells #[.int .u64 en, .slice A2 gs.length c2] 38)) := (Below.refl _ _).alloc (Nat.le_refl _) _
    have hi2 := two_one w1 (.int .u64 en) (.slice A2 gs.length c2)
    have hr2 := obj_alloc (o2 := .cells #[.int .u64 en, .slice A2 gs.length c2] 38) hr1
    go_wp2_with fail
    refine Calls.mono (rWrite4_any _ A2 c2 en gs ((hSg.below hb2).mono hb2.size) hen) ?_
    intro e w4 hW
    rcases hW with ⟨hc, g, fl, rfl, hbuf, hg, hfl, hflm, hB4⟩ | ⟨hc, rfl, hB4⟩
    · have hi4 := (hB4.block _ (by rw [World.size_alloc]; omega)).trans hi2
      have hr4 := (hB4.block _ (by rw [World.size_alloc]; have := lt_of_block hr1; omega)).trans hr2
      have hb4 := hb2.trans (hB4.mono hb2.size)
      have hBf4 := hBf.trans (hb4.mono hBf.size)
      have hK := check_ok hc
      have h8 := hK.few
      rw [List.length_map] at h8
      rw [if_neg (by rw [hc]; simp)] at hR4
      have HR := Lib.hid hR4
      have HFL := Lib.hid hfl
      clear hc hK hR4 hfl
      obtain ⟨M, hM⟩ : ∃ M, M = min len fl := ⟨_, rfl⟩
      have hM1 : M ≤ len := by omega
      have hM2 : M ≤ fl := by omega
      have hM3 : M = len ∨ M = fl := by omega
      have HM := Lib.hid hM
      clear hM
      go_wp2_with fail
      go_loopw [10] (fun i wr => ∃ j : Nat, j ≤ M ∧ i = .int .i64 j ∧ diffTo l (fileB en (gs.map Sg.d)) j = none ∧ Below w4.heap.size w4 wr) (fun i _ => M - (intOf i).toNat)
      case atStart => exact ⟨0, by omega, rfl, rfl, Below.refl _ _⟩
      case round =>
        obtain ⟨j, hj, rfl, hdf, hBr⟩ := hrel
        have hbr := hbuf.below hBr
        have hrr := (hr.below hBf4).below (hBr.mono hBf4.size)
        have hrr4 := (hBr.block _ (lt_of_block hr4)).trans hr4
        have hir4 := (hBr.block _ (lt_of_block hi4)).trans hi4
        have hBfr := hBf4.trans (hBr.mono hBf4.size)
        have HD := Lib.hid hdf
        clear hdf
        by_cases hjm : j < M
        · have hd5 : decide ((j : Int) < (fl : Int)) = true := decide_eq_true (by omega)
          have hd6 : decide ((j : Int) < (len : Int)) = true := decide_eq_true (by omega)
          have hi5 : (j : Int) < (len : Int) := by omega
          have hi6 : (j : Int) < (fl : Int) := by omega
          have hjl : j < l.length := by omega
          have hjf : j < (fileB en (gs.map Sg.d)).length := by rw [← HFL.out]; omega
          obtain ⟨b, o, rfl, hbl, hcl⟩ := Bs.at_ hrr j hjl
          have hcf := hbr.cell j hjf
          by_cases heq : l[j] = (fileB en (gs.map Sg.d))[j]
          · have hdn : diffTo l (fileB en (gs.map Sg.d)) (j + 1) = none := by rw [diffTo, HD.out]; simp only; rw [if_pos (by rw [List.getElem?_eq_getElem hjl, List.getElem?_eq_getElem hjf, heq])]
            have HN2 := Lib.hid hdn
            rw [← heq] at hcf
            clear hdn heq
            go_wp2
            go_quiet (fail)
            go_wp2
            go_roundw
            case rel => exact ⟨j + 1, by omega, by go_num, HN2.out, bdrewR hBr _⟩
            case measure => simp [intOf]; omega
          · have hdn : diffTo l (fileB en (gs.map Sg.d)) (j + 1) = some j := by rw [diffTo, HD.out]; simp only; rw [if_neg (by rw [List.getElem?_eq_getElem hjl, List.getElem?_eq_getElem hjf]; intro h; exact heq (Option.some.inj h))]
            have HRB := Lib.hid (show readE l = .bad j by rw [HR.out, hl, ← HFL.out, ← HM.out, diffTo_some hdn (show j + 1 ≤ M by omega)])
            have hnq : ((((fileB en (gs.map Sg.d))[j].toNat : Nat) : Int) != ((l[j]).toNat : Int)) = true := by simp only [bne_iff_ne]; intro h; exact heq (UInt8.toNat_inj.1 (by omega))
            clear hdn heq
            have HR := HRB
            go_wp2
            go_quiet (fail)
            have hrq : (wr.drewN nq).heap[w.heap.size]? = some (.cells #[.int .u64 0, .slice none 0 0] 38 (0, 0)) := hrr4
            have hBq := bdrewR hBfr nq
            have j0 := obj_cell hrq 0
            have j1 := obj_cell hrq 1
            have j2 := obj_frozen hrq 0
            have j3 := obj_frozen hrq 1
            go_wp2
            refine bodyPost_ret (v := .tuple #[.agg #[.int .u64 0, .slice none 0 0], .int .i64 40, .int .i64 j]) (by simp [results, Try.results22, go_sem, set2_0 hrq, set2_1 hrq]) rfl ?_
            exact .inl ⟨_, HR.out, rfl, (hBq.setCell (p := ⟨w.heap.size, 0, none⟩) (Nat.le_refl _) _).setCell (p := ⟨w.heap.size, 1, none⟩) (Nat.le_refl _) _⟩
        · obtain rfl : j = M := by omega
          have j0 := obj_cell hrr4 0
          have j1 := obj_cell hrr4 1
          have j2 := obj_frozen hrr4 0
          have j3 := obj_frozen hrr4 1
          by_cases hef : len = fl
          · have HR2 := Lib.hid (show readE l = .good en (gs.map Sg.d) by rw [HR.out, hl, ← HFL.out, ← HM.out, HD.out]; simp only; rw [if_neg (by omega)])
            have hd5 : decide (j < fl) = false := decide_eq_false (by omega)
            have hd7 : decide (fl < len) = false := decide_eq_false (by omega)
            have hd8 : decide (len < fl) = false := decide_eq_false (by omega)
            have j4 := obj_cell hir4 0
            have j5 := obj_cell hir4 1
            have hown2 : ∀ u u' : Value, OwnSs ((wr.setCell ⟨w.heap.size, 0, none⟩ u).setCell ⟨w.heap.size, 1, none⟩ u') (w.heap.size + 1) (.slice A2 gs.length c2) gs := fun u u' => by
              rw [← World.size_alloc w (.cells #[.int .u64 0, .slice none 0 0] 38)]
              exact ((hown.below hb4).below hBr).put hrr4 (by decide) (by decide) (((KeptBut.refl (fun b => b = w.heap.size) wr).setCell ⟨w.heap.size, 0, none⟩ rfl u).setCell ⟨w.heap.size, 1, none⟩ rfl u')
            clear hef hM3
            go_wp2
            refine bodyPost_ret (v := .tuple #[.agg #[.int .u64 (en : Nat), .slice A2 gs.length c2], .int .i64 0, .int .i64 0]) (by simp [results, Try.results22, go_sem, set2_0 hrr4, set2_1 hrr4]) rfl ?_
            exact .inr ⟨en, _, gs, HR2.out, rfl, ⟨(hown2 _ _).row.base (Nat.le_succ _), fun s hs => ((hown2 _ _).bytes s hs).base (Nat.le_succ _), hown.small⟩, h8, (hBfr.setCell (p := ⟨w.heap.size, 0, none⟩) (Nat.le_refl _) _).setCell (p := ⟨w.heap.size, 1, none⟩) (Nat.le_refl _) _⟩
          · have HR2 := Lib.hid (show readE l = .bad j by rw [HR.out, hl, ← HFL.out, ← HM.out, HD.out]; simp only; rw [if_pos hef])
            by_cases hlt : fl < len
            · obtain rfl : j = fl := by omega
              have hd5 : decide ((j : Int) < (j : Int)) = false := decide_eq_false (by omega)
              have hd7 : decide (j < len) = true := decide_eq_true hlt
              clear hef hM3 hlt
              go_wp2
              refine bodyPost_ret (v := .tuple #[.agg #[.int .u64 0, .slice none 0 0], .int .i64 40, .int .i64 j]) (by simp [results, Try.results22, go_sem, set2_0 hrr4, set2_1 hrr4]) rfl ?_
              exact .inl ⟨_, HR2.out, rfl, (hBfr.setCell (p := ⟨w.heap.size, 0, none⟩) (Nat.le_refl _) _).setCell (p := ⟨w.heap.size, 1, none⟩) (Nat.le_refl _) _⟩
            · obtain rfl : j = len := by omega
              have hd5 : decide ((j : Int) < (fl : Int)) = true := decide_eq_true (by omega)
              have hd6 : decide ((j : Int) < (j : Int)) = false := decide_eq_false (by omega)
              have hd7 : decide (fl < j) = false := decide_eq_false (by omega)
              have hd8 : decide (j < fl) = true := decide_eq_true (by omega)
              clear hef hM3 hlt
              go_wp2
              refine bodyPost_ret (v := .tuple #[.agg #[.int .u64 0, .slice none 0 0], .int .i64 40, .int .i64 j]) (by simp [results, Try.results22, go_sem, set2_0 hrr4, set2_1 hrr4]) rfl ?_
              exact .inl ⟨_, HR2.out, rfl, (hBfr.setCell (p := ⟨w.heap.size, 0, none⟩) (Nat.le_refl _) _).setCell (p := ⟨w.heap.size, 1, none⟩) (Nat.le_refl _) _⟩
    · have HR := Lib.hid (show readE l = .bad 64 by rw [hR4, if_pos (by rw [hc]; simp)])
      have hr4 := (hB4.block _ (by rw [World.size_alloc]; have := lt_of_block hr1; omega)).trans hr2
      have hb4 := hb2.trans (hB4.mono hb2.size)
      have hBf4 := hBf.trans (hb4.mono hBf.size)
      clear hc hR4
      have j0 := obj_cell hr4 0
      have j1 := obj_cell hr4 1
      have j2 := obj_frozen hr4 0
      have j3 := obj_frozen hr4 1
      go_wp2
      refine bodyPost_ret (v := .tuple #[.agg #[.int .u64 0, .slice none 0 0], .int .i64 40, .int .i64 (64)]) (by simp [results, Try.results22, go_sem, set2_0 hr4, set2_1 hr4]) rfl ?_
      exact .inl ⟨_, HR.out, rfl, (hBf4.setCell (p := ⟨w.heap.size, 0, none⟩) (Nat.le_refl _) _).setCell (p := ⟨w.heap.size, 1, none⟩) (Nat.le_refl _) _⟩
end Go.Proofs
