/- elf.Read: the image of a file, or the first place that is wrong. -/
import Derived.Test.YtkgnodlhdilmoaaSays
import Derived.BigQuiet
namespace Go.Pat
open Go Go.RowKit

def diffTo (b w : List UInt8) : Nat → Option Nat
  | 0 => none
  | k + 1 => match diffTo b w k with
    | some j => some j
    | none => if b[k]? = w[k]? then none else some k
theorem diffTo_some {b w : List UInt8} {k m j : Nat} (h : diffTo b w k = some j) (hk : k ≤ m) : diffTo b w m = some j := by
  induction m with
  | zero => obtain rfl : k = 0 := by omega
            exact h
  | succ m ih =>
    by_cases e : k = m + 1
    · rw [← e]; exact h
    · rw [diffTo, ih (by omega)]
inductive ReadR where
  | bad (at_ : Nat)
  | good (en : Nat) (ss : List Sgd)
def readE (l : List UInt8) : ReadR :=
  if l.length < 64 then .bad l.length
  else if num l 56 2 < 1 ∨ 8 < num l 56 2 then .bad 56
  else if l.length < 64 + 56 * num l 56 2 then .bad l.length
  else match saysT l (num l 56 2) (num l 56 2) with
    | .none => .bad l.length
    | .some ss _ =>
      if checkE (num l 24 8) ss ≠ 0 then .bad 64
      else match diffTo l (fileB (num l 24 8) ss) (min l.length (fileB (num l 24 8) ss).length) with
        | some k => .bad k
        | none => if l.length ≠ (fileB (num l 24 8) ss).length then .bad (min l.length (fileB (num l 24 8) ss).length) else .good (num l 24 8) ss
end Go.Pat
namespace Go.Proofs
open Go Go.RowKit Go.Pat

/-- what Read tells. -/
def ReadP (w : World) (l : List UInt8) (e : Ending) (w' : World) : Prop :=
  (∃ at_ : Nat, readE l = .bad at_ ∧ e = .returned (.tuple #[.agg #[.int .u64 0, .slice none 0 0], .int .i64 40, .int .i64 at_]) ∧ Below w.heap.size w w') ∨
  (∃ en v gs, readE l = .good en (gs.map Sg.d) ∧ e = .returned (.tuple #[.agg #[.int .u64 (en : Nat), v], .int .i64 0, .int .i64 0]) ∧ OwnSs w' w.heap.size v gs ∧ gs.length ≤ 8 ∧ Below w.heap.size w w')

theorem bdrewR {B : Nat} {a w : World} (h : Below B a w) (n : Nat) : Below B a (w.drewN n) := ⟨h.os, h.tape, h.output, h.size, h.block⟩
theorem two_one (w : World) (x y : Value) : (w.alloc (.cells #[x, y] 38)).heap[w.heap.size]? = some (.cells #[x, y] 38 (0, 0)) := heap_alloc_new w _

set_option maxRecDepth 20000 in
set_option maxHeartbeats 8000000 in
theorem eRead_wide (w : World) (A : Option Addr) (cap len : Nat) (l : List UInt8) (hr : Bs w.heap.size w A l) (hl : l.length = len) (hlen : len ≤ 281474976710656) (hsml : ∀ k, k < num l 56 2 → cntK l k ≤ len → cntK l k ≤ 140737488351232) (hcap : len ≤ cap) :
    Calls Try.prog 21 #[.slice A len cap] w (ReadP w l) := by
  have hb0 : Below w.heap.size w (w.alloc (.cells #[.int .u64 0, .slice none 0 0] 38)) := (Below.refl _ _).alloc (Nat.le_refl _) _
  have hr0 := two_one w (.int .u64 0) (.slice none 0 0)
  by_cases h1 : len < 64
  · have HR := Lib.hid (show readE l = .bad len by unfold readE; rw [if_pos (by omega), hl])
    have hd : decide ((len : Int) < 64) = true := by simp; omega
    go_enter Try.func21, Try.ntmps21
    go_wp2
    refine bodyPost_ret (v := .tuple #[.agg #[.int .u64 0, .slice none 0 0], .int .i64 40, .int .i64 (len)]) (by simp [results, Try.results21, go_sem]) rfl ?_
    exact .inl ⟨_, HR.out, rfl, hb0⟩
  have hd1 : decide ((len : Int) < 64) = false := by simp; omega
  obtain ⟨n, hn⟩ : ∃ n, n = num l 56 2 := ⟨_, rfl⟩
  have hn16 : n < 65536 := by rw [hn]; exact num_lt l 56 2
  by_cases h2 : n < 1 ∨ 8 < n
  · have HR := Lib.hid (show readE l = .bad 56 by unfold readE; rw [if_neg (by omega), if_pos (by rw [← hn]; exact h2)])
    have HN := Lib.hid hn
    clear hn
    rcases (show (decide ((n : Int) < 1) = true) ∨ (decide ((n : Int) < 1) = false ∧ decide ((8 : Int) < (n : Int)) = true) by
      rcases h2 with h | h
      · exact .inl (decide_eq_true (by omega))
      · exact .inr ⟨decide_eq_false (by omega), decide_eq_true (by omega)⟩) with d1 | ⟨d1, d2⟩
    all_goals
      clear h2
      go_enter Try.func21, Try.ntmps21
      go_wp2_with fail
      refine Calls.mono (eget_any _ A cap len 56 2 _ l (hr.below hb0) hl (by omega) (by omega) (by decide)) ?_
      rintro e w' ⟨rfl, rfl⟩
      rw [← HN.out]
      go_wp2
      refine bodyPost_ret (v := .tuple #[.agg #[.int .u64 0, .slice none 0 0], .int .i64 40, .int .i64 (56)]) (by simp [results, Try.results21, go_sem]) rfl ?_
      exact .inl ⟨_, HR.out, rfl, hb0⟩
  have d1 : decide ((n : Int) < 1) = false := decide_eq_false (by omega)
  have d2 : decide ((8 : Int) < (n : Int)) = false := decide_eq_false (by omega)
  by_cases h3 : len < 64 + 56 * n
  · have HR := Lib.hid (show readE l = .bad len by unfold readE; rw [if_neg (by omega), if_neg (by rw [← hn]; exact h2), if_pos (by rw [← hn, hl]; exact h3), hl])
    have HN := Lib.hid hn
    clear hn
    have d3 : decide ((len : Int) < 64 + 56 * (n : Int)) = true := decide_eq_true (by omega)
    go_enter Try.func21, Try.ntmps21
    go_wp2_with fail
    refine Calls.mono (eget_any _ A cap len 56 2 _ l (hr.below hb0) hl (by omega) (by omega) (by decide)) ?_
    rintro e w' ⟨rfl, rfl⟩
    rw [← HN.out]
    go_wp2
    refine bodyPost_ret (v := .tuple #[.agg #[.int .u64 0, .slice none 0 0], .int .i64 40, .int .i64 (len)]) (by simp [results, Try.results21, go_sem]) rfl ?_
    exact .inl ⟨_, HR.out, rfl, hb0⟩
  have d3 : decide ((len : Int) < 64 + 56 * (n : Int)) = false := decide_eq_false (by omega)
  have hR3 : readE l = match saysT l n n with
    | .none => .bad l.length
    | .some ss _ =>
      if checkE (num l 24 8) ss ≠ 0 then .bad 64
      else match diffTo l (fileB (num l 24 8) ss) (min l.length (fileB (num l 24 8) ss).length) with
        | some k => .bad k
        | none => if l.length ≠ (fileB (num l 24 8) ss).length then .bad (min l.length (fileB (num l 24 8) ss).length) else .good (num l 24 8) ss := by
    unfold readE
    rw [if_neg (by omega), if_neg (by rw [← hn]; exact h2), if_neg (by rw [← hn, hl]; exact h3), ← hn]
  have HN := Lib.hid hn
  have HR3 := Lib.hid hR3
  clear hn hR3
  go_enter Try.func21, Try.ntmps21
  go_wp2_with fail
  refine Calls.mono (eget_any _ A cap len 56 2 _ l (hr.below hb0) hl (by omega) (by omega) (by decide)) ?_
  rintro e w' ⟨rfl, rfl⟩
  rw [← HN.out]
  go_wp2_with fail
  refine Calls.mono (esays_wide _ A cap len n l ((hr.below hb0).more hb0.size) hl hlen (by rw [HN.out]; exact hsml) hcap (by omega) (by omega)) ?_
  intro e w1 hS
  rcases hS with ⟨hT, ⟨a, A2, m, c, rfl⟩, hB1⟩ | ⟨ss, ed, v, gs, hT, rfl, hown, hgs, hgl, hB1⟩
  · have HR := Lib.hid (show readE l = .bad len by rw [HR3.out, hT, hl])
    clear hT
    have hr1 := obj_alloc (o2 := .cells #[.int .u64 a, .slice A2 m c] 38) ((hB1.block _ (by rw [World.size_alloc]; omega)).trans hr0)
    have hBf := (hb0.trans (hB1.mono hb0.size)).alloc (Nat.le_trans hb0.size hB1.size) (.cells #[.int .u64 a, .slice A2 m c] 38)
    have j0 := obj_cell hr1 0
    have j1 := obj_cell hr1 1
    have j2 := obj_frozen hr1 0
    have j3 := obj_frozen hr1 1
    go_wp2
    refine bodyPost_ret (v := .tuple #[.agg #[.int .u64 0, .slice none 0 0], .int .i64 40, .int .i64 (len)]) (by simp [results, Try.results21, go_sem, set2_0 hr1, set2_1 hr1]) rfl ?_
    exact .inl ⟨_, HR.out, rfl, (hBf.setCell (p := ⟨w.heap.size, 0, none⟩) (Nat.le_refl _) _).setCell (p := ⟨w.heap.size, 1, none⟩) (Nat.le_refl _) _⟩
  · subst hgs
    subst hgl
    have hen := Nat.lt_of_lt_of_le (num_lt l 24 8) (show 256 ^ 8 ≤ 18446744073709551616 by decide)
    have hR4 := HR3.out
    rw [hT] at hR4
    simp only [] at hR4
    clear hT
    obtain ⟨en, hne⟩ : ∃ en, en = num l 24 8 := ⟨_, rfl⟩
    rw [← hne] at hen hR4 ⊢
    have HE := Lib.hid hne
    clear hne
    have hr1 := (hB1.block _ (by rw [World.size_alloc]; omega)).trans hr0
    obtain ⟨A2, c2, rfl, hSg⟩ := hown.sgs (by omega)
    have hBf := hb0.trans (hB1.mono hb0.size)
    have hb2 : Below w1.heap.size w1 (w1.alloc (.cells #[.int .u64 en, .slice A2 gs.length c2] 38)) := (Below.refl _ _).alloc (Nat.le_refl _) _
    have hi2 := two_one w1 (.int .u64 en) (.slice A2 gs.length c2)
    have hr2 := obj_alloc (o2 := .cells #[.int .u64 en, .slice A2 gs.length c2] 38) hr1
    go_wp2_with fail
    refine Calls.mono (eCheck_any _ A2 c2 en gs ((hSg.below hb2).mono hb2.size) hen) ?_
    rintro e w3 ⟨rfl, hB3⟩
    have hi3 := (hB3.block _ (by rw [World.size_alloc]; omega)).trans hi2
    have hr3 := (hB3.block _ (by rw [World.size_alloc]; have := lt_of_block hr1; omega)).trans hr2
    have hb3 := hb2.trans (hB3.mono hb2.size)
    have hBf3 := hBf.trans (hb3.mono hBf.size)
    by_cases hc : checkE en (gs.map Sg.d) = 0
    · have hd4 : (checkE en (gs.map Sg.d) != 0) = false := by rw [hc]; rfl
      have hK := check_ok hc
      have h8 := hK.few
      rw [List.length_map] at h8
      have hs2 : ∀ s ∈ gs, s.data.length ≤ 16777216 ∧ 0 ≤ s.perm ∧ s.perm ≤ 7 := fun s hs => hK.seg s.d (List.mem_map.2 ⟨s, hs, rfl⟩)
      rw [if_neg (by rw [hc]; simp)] at hR4
      have HR := Lib.hid hR4
      have j0 := obj_cell hi3 0
      have j1 := obj_cell hi3 1
      clear hc hK hR4
      go_wp2_with fail
      refine Calls.mono (efile_any _ A2 c2 en gs ((hSg.below hb3).mono hb3.size) h8 hen hs2) ?_
      rintro e w4 ⟨g, fl, rfl, hbuf, hg, hfl, hflm, hB4⟩
      have hi4 := (hB4.block _ (lt_of_block hi3)).trans hi3
      have hr4 := (hB4.block _ (lt_of_block hr3)).trans hr3
      have hb4 := hb3.trans (hB4.mono hb3.size)
      have hBf4 := hBf.trans (hb4.mono hBf.size)
      have HFL := Lib.hid hfl
      clear hfl hs2 j0 j1
      by_cases hlt : fl < len
      · have hmn : min len fl = fl := Nat.min_eq_right (by omega)
        go_wp2_with fail
        go_loopw [57] (fun i wr => ∃ j : Nat, j ≤ fl ∧ i = .int .i64 j ∧ diffTo l (fileB en (gs.map Sg.d)) j = none ∧ Below w4.heap.size w4 wr) (fun i _ => fl - (intOf i).toNat)
        case atStart => exact ⟨0, by omega, rfl, rfl, Below.refl _ _⟩
        case round =>
          obtain ⟨j, hj, rfl, hdf, hBr⟩ := hrel
          have hbr := hbuf.below hBr
          have hrr := (hr.below hBf4).below (hBr.mono hBf4.size)
          have hrr4 := (hBr.block _ (lt_of_block hr4)).trans hr4
          have hir4 := (hBr.block _ (lt_of_block hi4)).trans hi4
          have hBfr := hBf4.trans (hBr.mono hBf4.size)
          have HD := Lib.hid hdf
          clear hdf
          by_cases hjm : j < fl
          · have hd5 : decide ((j : Int) < (fl : Int)) = true := decide_eq_true (by omega)
            have hi5 : (j : Int) < (len : Int) := by omega
            have hi6 : (j : Int) < (fl : Int) := by omega
            have hjl : j < l.length := by omega
            have hjf : j < (fileB en (gs.map Sg.d)).length := by rw [← HFL.out]; omega
            obtain ⟨b, o, rfl, hbl, hcl⟩ := Bs.at_ hrr j hjl
            have hcf := hbr.cell j hjf
            by_cases heq : l[j] = (fileB en (gs.map Sg.d))[j]
            · have hdn : diffTo l (fileB en (gs.map Sg.d)) (j + 1) = none := by rw [diffTo, HD.out]; simp only; rw [if_pos (by rw [List.getElem?_eq_getElem hjl, List.getElem?_eq_getElem hjf, heq])]
              have HN2 := Lib.hid hdn
              rw [← heq] at hcf
              clear hdn heq
              go_wp2
              go_quiet (fail)
              go_wp2
              go_roundw
              case rel => exact ⟨j + 1, by omega, by go_num, HN2.out, bdrewR hBr _⟩
              case measure => simp [intOf]; omega
            · have hdn : diffTo l (fileB en (gs.map Sg.d)) (j + 1) = some j := by rw [diffTo, HD.out]; simp only; rw [if_neg (by rw [List.getElem?_eq_getElem hjl, List.getElem?_eq_getElem hjf]; intro h; exact heq (Option.some.inj h))]
              have HRB := Lib.hid (show readE l = .bad j by rw [HR.out, hl, ← HFL.out, hmn, diffTo_some hdn (show j + 1 ≤ fl by omega)])
              have hnq : ((((l[j]).toNat : Nat) : Int) != (((fileB en (gs.map Sg.d))[j].toNat : Nat) : Int)) = true := by simp only [bne_iff_ne]; intro h; exact heq (UInt8.toNat_inj.1 (by omega))
              clear hdn heq
              have HR := HRB
              go_wp2
              go_quiet (fail)
              have hrq : (wr.drewN nq).heap[w.heap.size]? = some (.cells #[.int .u64 0, .slice none 0 0] 38 (0, 0)) := hrr4
              have hBq := bdrewR hBfr nq
              have j0 := obj_cell hrq 0
              have j1 := obj_cell hrq 1
              have j2 := obj_frozen hrq 0
              have j3 := obj_frozen hrq 1
              go_wp2
              refine bodyPost_ret (v := .tuple #[.agg #[.int .u64 0, .slice none 0 0], .int .i64 40, .int .i64 j]) (by simp [results, Try.results21, go_sem, set2_0 hrq, set2_1 hrq]) rfl ?_
              exact .inl ⟨_, HR.out, rfl, (hBq.setCell (p := ⟨w.heap.size, 0, none⟩) (Nat.le_refl _) _).setCell (p := ⟨w.heap.size, 1, none⟩) (Nat.le_refl _) _⟩
          · have hd5 : decide ((j : Int) < (fl : Int)) = false := decide_eq_false (by omega)
            obtain rfl : j = fl := by omega
            have hne : ((len : Int) != (j : Int)) = true := by simp only [bne_iff_ne]; omega
            have HR2 := Lib.hid (show readE l = .bad j by rw [HR.out, hl, ← HFL.out, hmn, HD.out]; simp only; rw [if_pos (by omega)])
            have j0 := obj_cell hrr4 0
            have j1 := obj_cell hrr4 1
            have j2 := obj_frozen hrr4 0
            have j3 := obj_frozen hrr4 1
            go_wp2
            refine bodyPost_ret (v := .tuple #[.agg #[.int .u64 0, .slice none 0 0], .int .i64 40, .int .i64 j]) (by simp [results, Try.results21, go_sem, set2_0 hrr4, set2_1 hrr4]) rfl ?_
            exact .inl ⟨_, HR2.out, rfl, (hBfr.setCell (p := ⟨w.heap.size, 0, none⟩) (Nat.le_refl _) _).setCell (p := ⟨w.heap.size, 1, none⟩) (Nat.le_refl _) _⟩
      · have hmn : min len fl = len := Nat.min_eq_left (by omega)
        go_wp2_with fail
        go_loopw [57] (fun i wr => ∃ j : Nat, j ≤ len ∧ i = .int .i64 j ∧ diffTo l (fileB en (gs.map Sg.d)) j = none ∧ Below w4.heap.size w4 wr) (fun i _ => len - (intOf i).toNat)
        case atStart => exact ⟨0, by omega, rfl, rfl, Below.refl _ _⟩
        case round =>
          obtain ⟨j, hj, rfl, hdf, hBr⟩ := hrel
          have hbr := hbuf.below hBr
          have hrr := (hr.below hBf4).below (hBr.mono hBf4.size)
          have hrr4 := (hBr.block _ (lt_of_block hr4)).trans hr4
          have hir4 := (hBr.block _ (lt_of_block hi4)).trans hi4
          have hBfr := hBf4.trans (hBr.mono hBf4.size)
          have HD := Lib.hid hdf
          clear hdf
          by_cases hjm : j < len
          · have hd5 : decide ((j : Int) < (len : Int)) = true := decide_eq_true (by omega)
            have hi5 : (j : Int) < (len : Int) := by omega
            have hi6 : (j : Int) < (fl : Int) := by omega
            have hjl : j < l.length := by omega
            have hjf : j < (fileB en (gs.map Sg.d)).length := by rw [← HFL.out]; omega
            obtain ⟨b, o, rfl, hbl, hcl⟩ := Bs.at_ hrr j hjl
            have hcf := hbr.cell j hjf
            by_cases heq : l[j] = (fileB en (gs.map Sg.d))[j]
            · have hdn : diffTo l (fileB en (gs.map Sg.d)) (j + 1) = none := by rw [diffTo, HD.out]; simp only; rw [if_pos (by rw [List.getElem?_eq_getElem hjl, List.getElem?_eq_getElem hjf, heq])]
              have HN2 := Lib.hid hdn
              rw [← heq] at hcf
              clear hdn heq
              go_wp2
              go_quiet (fail)
              go_wp2
              go_roundw
              case rel => exact ⟨j + 1, by omega, by go_num, HN2.out, bdrewR hBr _⟩
              case measure => simp [intOf]; omega
            · have hdn : diffTo l (fileB en (gs.map Sg.d)) (j + 1) = some j := by rw [diffTo, HD.out]; simp only; rw [if_neg (by rw [List.getElem?_eq_getElem hjl, List.getElem?_eq_getElem hjf]; intro h; exact heq (Option.some.inj h))]
              have HRB := Lib.hid (show readE l = .bad j by rw [HR.out, hl, ← HFL.out, hmn, diffTo_some hdn (show j + 1 ≤ len by omega)])
              have hnq : ((((l[j]).toNat : Nat) : Int) != (((fileB en (gs.map Sg.d))[j].toNat : Nat) : Int)) = true := by simp only [bne_iff_ne]; intro h; exact heq (UInt8.toNat_inj.1 (by omega))
              clear hdn heq
              have HR := HRB
              go_wp2
              go_quiet (fail)
              have hrq : (wr.drewN nq).heap[w.heap.size]? = some (.cells #[.int .u64 0, .slice none 0 0] 38 (0, 0)) := hrr4
              have hBq := bdrewR hBfr nq
              have j0 := obj_cell hrq 0
              have j1 := obj_cell hrq 1
              have j2 := obj_frozen hrq 0
              have j3 := obj_frozen hrq 1
              go_wp2
              refine bodyPost_ret (v := .tuple #[.agg #[.int .u64 0, .slice none 0 0], .int .i64 40, .int .i64 j]) (by simp [results, Try.results21, go_sem, set2_0 hrq, set2_1 hrq]) rfl ?_
              exact .inl ⟨_, HR.out, rfl, (hBq.setCell (p := ⟨w.heap.size, 0, none⟩) (Nat.le_refl _) _).setCell (p := ⟨w.heap.size, 1, none⟩) (Nat.le_refl _) _⟩
          · have hd5 : decide ((j : Int) < (len : Int)) = false := decide_eq_false (by omega)
            obtain rfl : j = len := by omega
            have j0 := obj_cell hrr4 0
            have j1 := obj_cell hrr4 1
            have j2 := obj_frozen hrr4 0
            have j3 := obj_frozen hrr4 1
            by_cases hef : j ≠ fl
            · have hne : ((j : Int) != (fl : Int)) = true := by simp only [bne_iff_ne]; omega
              have HR2 := Lib.hid (show readE l = .bad j by rw [HR.out, hl, ← HFL.out, hmn, HD.out]; simp only; rw [if_pos hef])
              clear hef
              go_wp2
              refine bodyPost_ret (v := .tuple #[.agg #[.int .u64 0, .slice none 0 0], .int .i64 40, .int .i64 j]) (by simp [results, Try.results21, go_sem, set2_0 hrr4, set2_1 hrr4]) rfl ?_
              exact .inl ⟨_, HR2.out, rfl, (hBfr.setCell (p := ⟨w.heap.size, 0, none⟩) (Nat.le_refl _) _).setCell (p := ⟨w.heap.size, 1, none⟩) (Nat.le_refl _) _⟩
            · have hne : ((j : Int) != (fl : Int)) = false := by simp only [bne_eq_false_iff_eq]; omega
              have HR2 := Lib.hid (show readE l = .good en (gs.map Sg.d) by rw [HR.out, hl, ← HFL.out, hmn, HD.out]; simp only; rw [if_neg hef])
              have j4 := obj_cell hir4 0
              have j5 := obj_cell hir4 1
              have hown2 : ∀ u u' : Value, OwnSs ((wr.setCell ⟨w.heap.size, 0, none⟩ u).setCell ⟨w.heap.size, 1, none⟩ u') (w.heap.size + 1) (.slice A2 gs.length c2) gs := fun u u' => by
                rw [← World.size_alloc w (.cells #[.int .u64 0, .slice none 0 0] 38)]
                exact ((hown.below hb4).below hBr).put hrr4 (by decide) (by decide) (((KeptBut.refl (fun b => b = w.heap.size) wr).setCell ⟨w.heap.size, 0, none⟩ rfl u).setCell ⟨w.heap.size, 1, none⟩ rfl u')
              clear hef
              go_wp2
              refine bodyPost_ret (v := .tuple #[.agg #[.int .u64 (en : Nat), .slice A2 gs.length c2], .int .i64 0, .int .i64 0]) (by simp [results, Try.results21, go_sem, set2_0 hrr4, set2_1 hrr4]) rfl ?_
              exact .inr ⟨en, _, gs, HR2.out, rfl, ⟨(hown2 _ _).row.base (Nat.le_succ _), fun s hs => ((hown2 _ _).bytes s hs).base (Nat.le_succ _), hown.small⟩, h8, (hBfr.setCell (p := ⟨w.heap.size, 0, none⟩) (Nat.le_refl _) _).setCell (p := ⟨w.heap.size, 1, none⟩) (Nat.le_refl _) _⟩
    · have HR := Lib.hid (show readE l = .bad 64 by rw [hR4, if_pos hc])
      have hd4 : (checkE en (gs.map Sg.d) != 0) = true := by simpa using hc
      clear hc hR4
      have j0 := obj_cell hr3 0
      have j1 := obj_cell hr3 1
      have j2 := obj_frozen hr3 0
      have j3 := obj_frozen hr3 1
      go_wp2
      refine bodyPost_ret (v := .tuple #[.agg #[.int .u64 0, .slice none 0 0], .int .i64 40, .int .i64 (64)]) (by simp [results, Try.results21, go_sem, set2_0 hr3, set2_1 hr3]) rfl ?_
      exact .inl ⟨_, HR.out, rfl, (hBf3.setCell (p := ⟨w.heap.size, 0, none⟩) (Nat.le_refl _) _).setCell (p := ⟨w.heap.size, 1, none⟩) (Nat.le_refl _) _⟩
theorem eRead_any (w : World) (A : Option Addr) (cap len : Nat) (l : List UInt8) (hr : Bs w.heap.size w A l) (hl : l.length = len) (hlen : len ≤ 140737488351232) (hcap : len ≤ cap) :
    Calls Try.prog 21 #[.slice A len cap] w (ReadP w l) :=
  eRead_wide w A cap len l hr hl (by omega) (fun _ _ h => Nat.le_trans h hlen) hcap
end Go.Proofs
