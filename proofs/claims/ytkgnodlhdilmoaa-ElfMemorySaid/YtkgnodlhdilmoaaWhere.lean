/- elf.Where and patinaref04.Where. -/
import Derived.Test.YtkgnodlhdilmoaaElfWrites
namespace Go.Pat
open Go Go.RowKit
def hasAt (at_ : Nat) (s : Sgd) : Bool := decide (s.addr ≤ at_) && decide (at_ - s.addr < s.size)
def whereF (ss : List Sgd) (at_ : Nat) (k : Nat) : Bool := (ss.take k).any (hasAt at_)
def whereR (en : Nat) (ss : List Sgd) (at_ : Nat) : Nat × Nat := if checkE en ss = 0 then (match ss.findIdx? (hasAt at_) with | some k => (k, 0) | none => (0, 1)) else (0, 40)
theorem where_found {en : Nat} {ss : List Sgd} {at_ k : Nat} (hc : checkE en ss = 0) (hk : k < ss.length) (hno : ∀ i, (h : i < k) → hasAt at_ (ss[i]'(by omega)) = false) (hy : hasAt at_ ss[k] = true) : whereR en ss at_ = (k, 0) := by
  unfold whereR
  rw [if_pos hc]
  have : ss.findIdx? (hasAt at_) = some k := by
    rw [List.findIdx?_eq_some_iff_getElem]
    exact ⟨hk, hy, fun j hj => by rw [hno j hj]; decide⟩
  rw [this]
theorem where_none {en : Nat} {ss : List Sgd} {at_ : Nat} (hc : checkE en ss = 0) (hno : ∀ i, (h : i < ss.length) → hasAt at_ ss[i] = false) : whereR en ss at_ = (0, 1) := by
  unfold whereR
  rw [if_pos hc]
  have : ss.findIdx? (hasAt at_) = none := by
    rw [List.findIdx?_eq_none_iff]
    intro x hx
    obtain ⟨i, hi, rfl⟩ := List.getElem_of_mem hx
    exact hno i hi
  rw [this]
end Go.Pat
namespace Go.Proofs
open Go Go.RowKit Go.Pat

set_option maxRecDepth 20000 in
set_option maxHeartbeats 4000000 in
theorem eWhere_any (w : World) (A : Option Addr) (cap en n at_ : Nat) (ss : List Sg) (hP : SgsAt w.heap.size w A ss) (hn : ss.length = n) (hen : en < 18446744073709551616) (hat : at_ < 18446744073709551616) :
    Calls Try.prog 34 #[.agg #[.int .u64 en, .slice A n cap], .int .u64 at_] w fun e w' =>
      e = .returned (.tuple #[.int .i64 ((whereR en (ss.map Sg.d) at_).1 : Nat), .int .i64 ((whereR en (ss.map Sg.d) at_).2 : Nat)]) ∧ Below w.heap.size w w' := by
  have hb0 : Below w.heap.size w (w.alloc (.cells #[.int .u64 en, .slice A n cap] 38)) := (Below.refl _ _).alloc (Nat.le_refl _) _
  have hfew := hP.few
  rw [hn] at hfew
  have HN := Lib.hid hn
  clear hn
  have hbk : ∀ w', Below w.heap.size w w' → SgsAt w'.heap.size w' A ss := fun w' h => (hP.below h).mono h.size
  have HK := Lib.hid hbk
  clear hbk
  go_enter Try.func34, Try.ntmps34
  go_wp2_with fail
  refine Calls.mono (eCheck_int _ A cap en n ss (HK.out _ hb0) HN.out hen) ?_
  rintro e w1 ⟨rfl, hB1⟩
  rw [World.size_alloc] at hB1
  have hi1 := box_one w _ _ hB1
  have hBa : Below w.heap.size w w1 := hb0.trans (hB1.mono (Nat.le_succ _))
  by_cases hc : checkE en (ss.map Sg.d) = 0
  · have hd : (checkE en (ss.map Sg.d) != 0) = false := by rw [hc]; rfl
    have HC := Lib.hid hc
    clear hc
    have j11 := obj_cell hi1 1
    go_wp2_with fail
    go_loopw [17] (fun i wr => ∃ j : Nat, j ≤ n ∧ i = .int .i64 j ∧ (∀ k, (h : k < (ss.map Sg.d).length) → k < j → hasAt at_ (ss.map Sg.d)[k] = false) ∧ Below w1.heap.size w1 wr) (fun i _ => n - (intOf i).toNat)
    case atStart => exact ⟨0, by omega, rfl, fun k _ hk => by omega, Below.refl _ _⟩
    case round =>
      obtain ⟨j, hj, rfl, hno, hB⟩ := hrel
      have hir := (hB.block _ (lt_of_block hi1)).trans hi1
      have jr := obj_cell hir 1
      have hBr := hBa.trans (hB.mono hBa.size)
      have hPj := HK.out _ hBr
      have HNO := Lib.hid hno
      clear hno
      by_cases hlt : j < n
      · have hd3 : decide ((j : Int) < (n : Int)) = true := decide_eq_true (by omega)
        have hji : (j : Int) < (n : Int) := by omega
        have hj1 : j < ss.length := by rw [HN.out]; exact hlt
        obtain ⟨b, o, rfl, hb, p0, p1, p2, p3⟩ := hPj.cells j hj1
        obtain ⟨x, hx⟩ : ∃ x, x = ss[j] := ⟨_, rfl⟩
        rw [← hx] at p0 p1 p2 p3
        have hxs := hP.small x (by rw [hx]; exact List.getElem_mem _)
        have hxd : (ss.map Sg.d)[j]'(by rw [List.length_map]; exact hj1) = x.d := by rw [hx, List.getElem_map]
        have HX := Lib.hid hxd
        clear hx hxd
        have hBn : Below w1.heap.size w1 (wr.alloc (.cells #[.int .u64 (x.addr : Int), .int .i64 x.perm, .slice x.A x.data.length x.cap, .int .u64 (x.size : Int)] 73)) := hB.alloc hB.size _
        have hBw := hBa.trans (hBn.mono hBa.size)
        by_cases ha : x.addr ≤ at_
        · have ta : decide (x.addr ≤ at_) = true := decide_eq_true ha
          have ew : IntKind.u64.wrap ((at_ : Int) - (x.addr : Int)) = ((at_ - x.addr : Nat) : Int) := by rw [IntKind.wrap_u64]; omega
          obtain ⟨df, hdf⟩ : ∃ df, df = at_ - x.addr := ⟨_, rfl⟩
          rw [← hdf] at ew
          have hsub : (at_ : Int) - (x.addr : Int) = (df : Int) := by omega
          by_cases hs : df < x.size
          · have ts : decide (df < x.size) = true := decide_eq_true hs
            have HF := Lib.hid (where_found HC.out (by rw [List.length_map]; exact hj1) (fun i h => HNO.out i (by rw [List.length_map]; omega) h) (by rw [HX.out]; show (decide (x.addr ≤ at_) && decide (at_ - x.addr < x.size)) = true; rw [← hdf, ta, ts]; rfl))
            clear ha hs hdf
            go_wp2
            go_ret2
            exact ⟨by rw [HF.out]; rfl, hBw⟩
          · have ts : decide (df < x.size) = false := decide_eq_false hs
            have HM := Lib.hid (show hasAt at_ x.d = false by show (decide (x.addr ≤ at_) && decide (at_ - x.addr < x.size)) = false; rw [← hdf, ta, ts]; rfl)
            clear ha hs hdf
            go_wp2
            go_roundw
            case rel =>
              refine ⟨j + 1, by omega, by go_num, fun k h hk => ?_, hBn⟩
              by_cases e : k = j
              · subst e; rw [HX.out]; exact HM.out
              · exact HNO.out k h (by omega)
            case measure => simp [intOf]; omega
        · have ta : decide (x.addr ≤ at_) = false := decide_eq_false ha
          have HM := Lib.hid (show hasAt at_ x.d = false by show (decide (x.addr ≤ at_) && decide (at_ - x.addr < x.size)) = false; rw [ta]; rfl)
          clear ha
          go_wp2
          go_roundw
          case rel =>
            refine ⟨j + 1, by omega, by go_num, fun k h hk => ?_, hBn⟩
            by_cases e : k = j
            · subst e; rw [HX.out]; exact HM.out
            · exact HNO.out k h (by omega)
          case measure => simp [intOf]; omega
      · have hd3 : decide ((j : Int) < (n : Int)) = false := decide_eq_false (by omega)
        obtain rfl : j = n := by omega
        have HF := Lib.hid (where_none HC.out (fun i h => HNO.out i h (by rw [List.length_map, HN.out] at h; exact h)))
        go_wp2
        go_ret2
        exact ⟨by rw [HF.out]; rfl, hBr⟩
  · have hd : (checkE en (ss.map Sg.d) != 0) = true := by simpa using hc
    have h40 := check_no hc
    have hw : whereR en (ss.map Sg.d) at_ = (0, 40) := by unfold whereR; rw [if_neg hc]
    have HC := Lib.hid (And.intro h40 hw)
    clear hc h40 hw
    go_wp2
    go_ret2
    exact ⟨by rw [HC.out.2]; show _ = _; first | rfl | (rw [HC.out.1]; rfl) | (simp only [Ending.returned.injEq]; rw [HC.out.1]; rfl), hBa⟩

set_option maxRecDepth 20000 in
set_option maxHeartbeats 4000000 in
theorem rWhere4_any (w : World) (A : Option Addr) (cap en n at_ : Nat) (ss : List Sg) (hP : SgsAt w.heap.size w A ss) (hn : ss.length = n) (hen : en < 18446744073709551616) (hat : at_ < 18446744073709551616) :
    Calls Try.prog 35 #[.agg #[.int .u64 en, .slice A n cap], .int .u64 at_] w fun e w' =>
      e = .returned (.tuple #[.int .i64 ((whereR en (ss.map Sg.d) at_).1 : Nat), .int .i64 ((whereR en (ss.map Sg.d) at_).2 : Nat)]) ∧ Below w.heap.size w w' := by
  have hb0 : Below w.heap.size w (w.alloc (.cells #[.int .u64 en, .slice A n cap] 38)) := (Below.refl _ _).alloc (Nat.le_refl _) _
  have hfew := hP.few
  rw [hn] at hfew
  have HN := Lib.hid hn
  clear hn
  have hbk : ∀ w', Below w.heap.size w w' → SgsAt w'.heap.size w' A ss := fun w' h => (hP.below h).mono h.size
  have HK := Lib.hid hbk
  clear hbk
  go_enter Try.func35, Try.ntmps35
  go_wp2_with fail
  refine Calls.mono (rCheck4_int _ A cap en n ss (HK.out _ hb0) HN.out hen) ?_
  rintro e w1 ⟨rfl, hB1⟩
  rw [World.size_alloc] at hB1
  have hi1 := box_one w _ _ hB1
  have hBa : Below w.heap.size w w1 := hb0.trans (hB1.mono (Nat.le_succ _))
  by_cases hc : checkE en (ss.map Sg.d) = 0
  · have hd : (checkE en (ss.map Sg.d) != 0) = false := by rw [hc]; rfl
    have HC := Lib.hid hc
    clear hc
    have j11 := obj_cell hi1 1
    go_wp2_with fail
    go_loopw [6] (fun i wr => ∃ j : Nat, j ≤ n ∧ i = .int .i64 j ∧ (∀ k, (h : k < (ss.map Sg.d).length) → k < j → hasAt at_ (ss.map Sg.d)[k] = false) ∧ Below w1.heap.size w1 wr) (fun i _ => n - (intOf i).toNat)
    case atStart => exact ⟨0, by omega, rfl, fun k _ hk => by omega, Below.refl _ _⟩
    case round =>
      obtain ⟨j, hj, rfl, hno, hB⟩ := hrel
      have hir := (hB.block _ (lt_of_block hi1)).trans hi1
      have jr := obj_cell hir 1
      have hBr := hBa.trans (hB.mono hBa.size)
      have hPj := HK.out _ hBr
      have HNO := Lib.hid hno
      clear hno
      by_cases hlt : j < n
      · have hd3 : decide ((j : Int) < (n : Int)) = true := decide_eq_true (by omega)
        have hji : (j : Int) < (n : Int) := by omega
        have hj1 : j < ss.length := by rw [HN.out]; exact hlt
        obtain ⟨b, o, rfl, hb, p0, p1, p2, p3⟩ := hPj.cells j hj1
        obtain ⟨x, hx⟩ : ∃ x, x = ss[j] := ⟨_, rfl⟩
        rw [← hx] at p0 p1 p2 p3
        have hxs := hP.small x (by rw [hx]; exact List.getElem_mem _)
        have hxd : (ss.map Sg.d)[j]'(by rw [List.length_map]; exact hj1) = x.d := by rw [hx, List.getElem_map]
        have HX := Lib.hid hxd
        clear hx hxd
        have hBn : Below w1.heap.size w1 (wr.alloc (.cells #[.int .u64 (x.addr : Int), .int .i64 x.perm, .slice x.A x.data.length x.cap, .int .u64 (x.size : Int)] 73)) := hB.alloc hB.size _
        have hBw := hBa.trans (hBn.mono hBa.size)
        by_cases ha : x.addr ≤ at_
        · have ta : decide (x.addr ≤ at_) = true := decide_eq_true ha
          have ew : IntKind.u64.wrap ((at_ : Int) - (x.addr : Int)) = ((at_ - x.addr : Nat) : Int) := by rw [IntKind.wrap_u64]; omega
          obtain ⟨df, hdf⟩ : ∃ df, df = at_ - x.addr := ⟨_, rfl⟩
          rw [← hdf] at ew
          have hsub : (at_ : Int) - (x.addr : Int) = (df : Int) := by omega
          by_cases hs : df < x.size
          · have ts : decide (df < x.size) = true := decide_eq_true hs
            have HF := Lib.hid (where_found HC.out (by rw [List.length_map]; exact hj1) (fun i h => HNO.out i (by rw [List.length_map]; omega) h) (by rw [HX.out]; show (decide (x.addr ≤ at_) && decide (at_ - x.addr < x.size)) = true; rw [← hdf, ta, ts]; rfl))
            clear ha hs hdf
            go_wp2
            go_ret2
            exact ⟨by rw [HF.out]; rfl, hBw⟩
          · have ts : decide (df < x.size) = false := decide_eq_false hs
            have HM := Lib.hid (show hasAt at_ x.d = false by show (decide (x.addr ≤ at_) && decide (at_ - x.addr < x.size)) = false; rw [← hdf, ta, ts]; rfl)
            clear ha hs hdf
            go_wp2
            go_roundw
            case rel =>
              refine ⟨j + 1, by omega, by go_num, fun k h hk => ?_, hBn⟩
              by_cases e : k = j
              · subst e; rw [HX.out]; exact HM.out
              · exact HNO.out k h (by omega)
            case measure => simp [intOf]; omega
        · have ta : decide (x.addr ≤ at_) = false := decide_eq_false ha
          have HM := Lib.hid (show hasAt at_ x.d = false by show (decide (x.addr ≤ at_) && decide (at_ - x.addr < x.size)) = false; rw [ta]; rfl)
          clear ha
          go_wp2
          go_roundw
          case rel =>
            refine ⟨j + 1, by omega, by go_num, fun k h hk => ?_, hBn⟩
            by_cases e : k = j
            · subst e; rw [HX.out]; exact HM.out
            · exact HNO.out k h (by omega)
          case measure => simp [intOf]; omega
      · have hd3 : decide ((j : Int) < (n : Int)) = false := decide_eq_false (by omega)
        obtain rfl : j = n := by omega
        have HF := Lib.hid (where_none HC.out (fun i h => HNO.out i h (by rw [List.length_map, HN.out] at h; exact h)))
        go_wp2
        go_ret2
        exact ⟨by rw [HF.out]; rfl, hBr⟩
  · have hd : (checkE en (ss.map Sg.d) != 0) = true := by simpa using hc
    have h40 := check_no hc
    have hw : whereR en (ss.map Sg.d) at_ = (0, 40) := by unfold whereR; rw [if_neg hc]
    have HC := Lib.hid (And.intro h40 hw)
    clear hc h40 hw
    go_wp2
    go_ret2
    exact ⟨by rw [HC.out.2]; show _ = _; first | rfl | (rw [HC.out.1]; rfl) | (simp only [Ending.returned.injEq]; rw [HC.out.1]; rfl), hBa⟩
end Go.Proofs
