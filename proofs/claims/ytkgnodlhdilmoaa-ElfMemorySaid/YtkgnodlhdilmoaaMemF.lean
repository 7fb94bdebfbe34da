/- mem.From: pages that come in, and what is wrong with them. -/
import Derived.Test.YtkgnodlhdilmoaaMemP
import Derived.Test.YtkgnodlhdilmoaaClone
import Derived.Deep.QuietTactic
import Derived.BigQuiet
import Derived.Deep.RegionHeld3
import Derived.Deep.DrawnRows
namespace Go.Pat
open Go Go.RowKit

/-- a page as it comes in: what it says, and where its bytes lie. -/
structure PgIn where
  base : Nat
  perm : Int
  A : Option Addr
  cap : Nat
  data : List UInt8
def PgIn.pg (p : PgIn) : Pgd := ⟨p.base, p.perm, p.data⟩

/-- pages lie from A on, three cells each, below block B. -/
structure PgsAt (B : Nat) (w : World) (A : Option Addr) (ps : List PgIn) : Prop where
  cells : ∀ i, (h : i < ps.length) → ∃ b o, A = some ⟨b, o, none⟩ ∧ b < B ∧ w.cell? ⟨b, o + i * 3, none⟩ = some (.int .u64 (ps[i].base : Int)) ∧ w.cell? ⟨b, o + i * 3 + 1, none⟩ = some (.int .i64 ps[i].perm) ∧
    w.cell? ⟨b, o + i * 3 + 2, none⟩ = some (.slice ps[i].A ps[i].data.length ps[i].cap)
  bytes : ∀ p ∈ ps, Bs B w p.A p.data
  small : ∀ p ∈ ps, p.base < 18446744073709551616 ∧ p.data.length ≤ 140737488351232
  few : ps.length ≤ 140737488351232
theorem PgsAt.below {B : Nat} {w w' : World} {A : Option Addr} {ps : List PgIn} (h : PgsAt B w A ps) (hb : Below B w w') : PgsAt B w' A ps := by
  refine ⟨fun i hi => ?_, fun p hp => (h.bytes p hp).below hb, h.small, h.few⟩
  obtain ⟨b, o, e, hlt, h1, h2, h3⟩ := h.cells i hi
  exact ⟨b, o, e, hlt, (hb.cell (p := ⟨b, _, none⟩) hlt).trans h1, (hb.cell (p := ⟨b, _, none⟩) hlt).trans h2, (hb.cell (p := ⟨b, _, none⟩) hlt).trans h3⟩

/-- what is wrong with page k. -/
def wrongAt (ps : List Pgd) (k : Nat) : Int := match ps[k]? with
  | none => 0
  | some p => if p.base % 4096 ≠ 0 ∨ 281474976710656 ≤ p.base ∨ (0 < k ∧ p.base ≤ (ps.map Pgd.base).getD (k - 1) 0) ∨ p.data.length ≠ 4096 then 20 else if allowedB p.perm then 0 else 21
def wrongTo (ps : List Pgd) : Nat → Int
  | 0 => 0
  | k + 1 => if wrongTo ps k = 0 then wrongAt ps k else wrongTo ps k
def fromE (ps : List Pgd) : Int := if 4096 < ps.length then 20 else wrongTo ps ps.length

theorem wrongTo_mono {ps : List Pgd} {k n : Nat} {x : Int} (h : wrongTo ps k = x) (hx : x ≠ 0) (hk : k ≤ n) : wrongTo ps n = x := by
  induction n with
  | zero => obtain rfl : k = 0 := by omega
            exact h
  | succ n ih =>
    by_cases e : k = n + 1
    · subst e; exact h
    · have := ih (by omega)
      simp only [wrongTo, this, if_neg hx]
theorem wrongTo_ok {ps : List Pgd} {n : Nat} (h : wrongTo ps n = 0) : ∀ k, k < n → wrongAt ps k = 0 := by
  induction n with
  | zero => intro k hk; omega
  | succ n ih =>
    simp only [wrongTo] at h
    split at h
    · rename_i h0
      intro k hk
      by_cases e : k = n
      · subst e; exact h
      · exact ih h0 k (by omega)
    · rename_i h0; exact absurd h h0
theorem wrongAt_ok {ps : List Pgd} {k : Nat} (hk : k < ps.length) (h : wrongAt ps k = 0) :
    ps[k].base % 4096 = 0 ∧ ps[k].base < 281474976710656 ∧ (0 < k → (ps.map Pgd.base).getD (k - 1) 0 < ps[k].base) ∧ ps[k].data.length = 4096 ∧ allowedB ps[k].perm = true := by
  unfold wrongAt at h
  rw [List.getElem?_eq_getElem hk] at h
  simp only at h
  split at h
  · cases h
  · rename_i hn
    split at h
    · rename_i ha
      refine ⟨by omega, by omega, by omega, by omega, ha⟩
    · cases h
/-- the bases rise. -/
theorem wrongTo_rises {ps : List Pgd} {n : Nat} (hn : n ≤ ps.length) (h : wrongTo ps n = 0) : ∀ i j, (hj : j < n) → (hi : i < j) → (ps[i]'(by omega)).base < (ps[j]'(by omega)).base := by
  intro i j
  induction j with
  | zero => intro _ hi; omega
  | succ j ih =>
    intro hj hi
    have hw := (wrongAt_ok (by omega) (wrongTo_ok h (j + 1) hj)).2.2.1 (by omega)
    have e : (ps.map Pgd.base).getD (j + 1 - 1) 0 = (ps[j]'(by omega)).base := by
      rw [Nat.add_sub_cancel, List.getD_eq_getElem?_getD, List.getElem?_map, List.getElem?_eq_getElem (by omega)]
      rfl
    rw [e] at hw
    by_cases e2 : i = j
    · subst e2; exact hw
    · exact Nat.lt_trans (ih (by omega) (by omega)) hw

/-- a page is kept in the map, its bytes in memory of its own. -/
theorem push_clone {w1 : World} {p mb B : Nat} {fs : List Fr} {q : PgIn} {v : Value} (hM : MemAt w1 p mb fs) (hown : Go.Proofs.OwnB w1 B v q.data) (hl : q.data.length = 4096) (hB : ∀ f ∈ fs, f.blk < B)
    (hno : frAt fs q.base = none) (hs : q.base < 281474976710656) :
    ∃ (g cap : Nat) (O : Obj), v = .slice (some ⟨g, 0, none⟩) 4096 cap ∧ B ≤ g ∧
      (Instr.mapUpdate 103 (.map (some mb)) (.int .u64 (q.base : Int)) (.agg #[.int .i64 q.perm, .slice (some ⟨g, 0, none⟩) 4096 cap])).run Go.Proofs.Try.prog w1 = .ok () (setObjW w1 mb O) ∧
      MemAt (setObjW w1 mb O) p mb (fs ++ [⟨q.base, q.perm, g, cap, q.data⟩]) := by
  rcases hown.2 with ⟨_, h0⟩ | ⟨g, cap, cur, rfl, hg, hh, hn, hm, hc, ht⟩
  · omega
  · rw [hl] at hn ht
    rw [hl]
    have hF : FrIn w1 ⟨q.base, q.perm, g, cap, q.data⟩ := by
      refine ⟨hl, hn, hm, cur, hh, by rw [hc, Nat.mul_one], fun i hi => ?_⟩
      have h1 : (cur.toList.take (4096 * 1))[i]? = (bcells q.data)[i]? := by rw [ht]
      have hi2 : i < q.data.length := hi
      rw [List.getElem?_take, if_pos (by omega)] at h1
      simp [bcells, bval, hi2] at h1
      exact h1
    exact ⟨g, cap, _, rfl, hg, hM.upd q.base _ hno, hM.push ⟨q.base, q.perm, g, cap, q.data⟩ hF (by
      intro hx
      obtain ⟨f, hf, e⟩ := List.mem_map.1 hx
      have := hB f hf
      simp only at e
      omega) (not_mem_of_frAt hno) hs⟩
end Go.Pat
namespace Go.Proofs
open Go Go.RowKit Go.Pat

theorem From_many (w : World) (A : Option Addr) (n cap : Nat) (hn : 4096 < n) (hn2 : n ≤ 140737488351232) :
    Calls Try.prog 18 #[.slice A n cap] w fun e w' => e = .returned (.tuple #[.pointer none, .int .i64 20]) ∧ w = w' := by
  have hd : decide ((4096 : Int) < (n : Int)) = true := by simp; omega
  go_enter Try.func18, Try.ntmps18
  go_wp2
  go_ret2
  exact ⟨rfl, rfl⟩

/-- the tests of one page, as the code makes them. -/
theorem from_tests {ps : List PgIn} {k : Nat} (hk : k < ps.length) (h : wrongAt (ps.map PgIn.pg) k = 20) :
    ((ps[k].base : Int) % 4096 != 0) = true ∨
    (((ps[k].base : Int) % 4096 != 0) = false ∧ decide ((281474976710656 : Int) ≤ (ps[k].base : Int)) = true) ∨
    (((ps[k].base : Int) % 4096 != 0) = false ∧ decide ((281474976710656 : Int) ≤ (ps[k].base : Int)) = false ∧ k ≠ 0 ∧ decide (ps[k].base ≤ (ps[k - 1]'(by omega)).base) = true) ∨
    (((ps[k].base : Int) % 4096 != 0) = false ∧ decide ((281474976710656 : Int) ≤ (ps[k].base : Int)) = false ∧ k = 0 ∧ ((ps[k].data.length : Int) != 4096) = true) ∨
    (((ps[k].base : Int) % 4096 != 0) = false ∧ decide ((281474976710656 : Int) ≤ (ps[k].base : Int)) = false ∧ k ≠ 0 ∧ decide (ps[k].base ≤ (ps[k - 1]'(by omega)).base) = false ∧ ((ps[k].data.length : Int) != 4096) = true) := by
  unfold wrongAt at h
  rw [List.getElem?_map, List.getElem?_eq_getElem hk] at h
  have hp : k ≠ 0 → ((ps.map PgIn.pg).map Pgd.base).getD (k - 1) 0 = (ps[k - 1]'(by omega)).base := by
    intro h0
    rw [List.map_map, List.getD_eq_getElem?_getD, List.getElem?_map, List.getElem?_eq_getElem (by omega)]
    rfl
  simp only [Option.map_some, PgIn.pg] at h
  split at h
  · rename_i hc
    simp only [bne_iff_ne, ne_eq, decide_eq_true_eq, decide_eq_false_iff_not, bne_eq_false_iff_eq]
    by_cases h0 : k = 0
    · subst h0
      simp only [Nat.lt_irrefl, false_and, false_or] at hc
      omega
    · have := hp h0
      rw [this] at hc
      omega
  · split at h <;> cases h

theorem bdrewN {B : Nat} {a w : World} (h : Below B a w) (n : Nat) : Below B a (w.drewN n) := ⟨h.os, h.tape, h.output, h.size, h.block⟩

/-- the tests of a page that is right. -/
theorem from_right {ps : List PgIn} {k : Nat} (hk : k < ps.length) (h : ¬ wrongAt (ps.map PgIn.pg) k = 20) :
    ((ps[k].base : Int) % 4096 != 0) = false ∧ decide ((281474976710656 : Int) ≤ (ps[k].base : Int)) = false ∧ (k ≠ 0 → decide (ps[k].base ≤ (ps[k - 1]'(by omega)).base) = false) ∧ ((ps[k].data.length : Int) != 4096) = false ∧
    ps[k].base < 281474976710656 ∧ ps[k].data.length = 4096 ∧ wrongAt (ps.map PgIn.pg) k = if allowedB ps[k].perm then 0 else 21 := by
  unfold wrongAt at h ⊢
  rw [List.getElem?_map, List.getElem?_eq_getElem hk] at h ⊢
  have hp : k ≠ 0 → ((ps.map PgIn.pg).map Pgd.base).getD (k - 1) 0 = (ps[k - 1]'(by omega)).base := by
    intro h0
    rw [List.map_map, List.getD_eq_getElem?_getD, List.getElem?_map, List.getElem?_eq_getElem (by omega)]
    rfl
  simp only [Option.map_some, PgIn.pg] at h ⊢
  split at h
  · exact absurd rfl h
  · rename_i hc
    rw [if_neg hc]
    simp only [bne_eq_false_iff_eq, decide_eq_false_iff_not]
    refine ⟨by omega, by omega, fun h0 => ?_, by omega, by omega, by omega, trivial⟩
    have := hp h0
    simp only [show (List.map PgIn.pg ps) = List.map (fun p : PgIn => ({ base := p.base, perm := p.perm, data := p.data } : Pgd)) ps from rfl] at this
    have h2 : ¬ (0 < k ∧ ps[k].base ≤ (List.map Pgd.base (List.map PgIn.pg ps)).getD (k - 1) 0) := fun hx => hc (.inr (.inr (.inl hx)))
    rw [hp h0] at h2
    omega

/-- the block in which a page of the list is kept while it is looked at. -/
theorem page_block (wr W1 : World) (x y z : Value) (nq : Nat) {p mb t : Nat} (hW1 : W1 = (wr.alloc (.cells #[x, y, z] t)).drewN nq) (hc : wr.cell? ⟨p, 0, none⟩ = some (.map (some mb))) (hp : p < wr.heap.size) :
    Below wr.heap.size wr W1 ∧ wr.heap.size < W1.heap.size ∧ W1.cell? ⟨p, 0, none⟩ = some (.map (some mb)) ∧ W1.cell? ⟨wr.heap.size, 0, none⟩ = some x ∧ W1.cell? ⟨wr.heap.size, 1, none⟩ = some y ∧ W1.cell? ⟨wr.heap.size, 2, none⟩ = some z := by
  have hB : Below wr.heap.size wr W1 := by subst hW1; exact bdrewN ((Below.refl _ _).alloc (Nat.le_refl _) _) _
  have hh : W1.heap[wr.heap.size]? = some (.cells #[x, y, z] t) := by subst hW1; exact heap_alloc_new wr _
  refine ⟨hB, lt_of_block hh, (hB.cell (p := ⟨p, 0, none⟩) hp).trans hc, ?_, ?_, ?_⟩
  · rw [cell_of_row W1 _ 0 _ _ _ hh]; rfl
  · rw [cell_of_row W1 _ 1 _ _ _ hh]; rfl
  · rw [cell_of_row W1 _ 2 _ _ _ hh]; rfl

/-- a page that is right has a base that none ahead of it has. -/
theorem from_fresh {ps : List PgIn} {k : Nat} {fs : List Fr} (hfs : fs.map Fr.pg = (ps.take k).map PgIn.pg) (hw : wrongTo (ps.map PgIn.pg) (k + 1) = 0) (hk : k < ps.length) : frAt fs ps[k].base = none := by
  apply frAt_none_of
  intro hm
  obtain ⟨f, hf, hfb⟩ := List.mem_map.1 hm
  have h1 : f.pg ∈ (ps.take k).map PgIn.pg := by rw [← hfs]; exact List.mem_map.2 ⟨f, hf, rfl⟩
  obtain ⟨q, hq, hqe⟩ := List.mem_map.1 h1
  obtain ⟨i, hi, rfl⟩ := List.getElem_of_mem hq
  have hi2 : i < k := by simp at hi; omega
  have h2 := wrongTo_rises (ps := ps.map PgIn.pg) (n := k + 1) (by simp; omega) hw i k (by omega) hi2
  simp only [List.getElem_map, PgIn.pg] at h2
  have h3 : f.base = (ps.take k)[i].base := (congrArg Pgd.base hqe).symm
  rw [List.getElem_take] at h3
  omega

theorem take_map_succ {α β : Type} (f : α → β) (l : List α) (k : Nat) (hk : k < l.length) : (l.take (k + 1)).map f = (l.take k).map f ++ [f l[k]] := by
  rw [List.take_succ_eq_append_getElem hk, List.map_append]; rfl
theorem below_setObjW {B : Nat} {a b : World} (h : Below B a b) {r : Nat} (hr : B ≤ r) (o : Obj) : Below B a (setObjW b r o) :=
  ⟨h.os, h.tape, h.output, by simpa [setObjW] using h.size, fun k hk => (setObjW_other b r o k (by omega)).trans (h.block k hk)⟩

/-- how From ends. -/
def FromPost (w : World) (ps : List PgIn) (e : Ending) (w' : World) : Prop :=
  (fromE (ps.map PgIn.pg) = 0 ∧ ∃ (p mb : Nat) (fs : List Fr), e = .returned (.tuple #[.pointer (some ⟨p, 0, none⟩), .int .i64 0]) ∧ fs.map Fr.pg = ps.map PgIn.pg ∧ MemAt w' p mb fs ∧
    w.heap.size ≤ p ∧ w.heap.size ≤ mb ∧ (∀ f ∈ fs, w.heap.size ≤ f.blk) ∧ Below w.heap.size w w') ∨
  (fromE (ps.map PgIn.pg) ≠ 0 ∧ e = .returned (.tuple #[.pointer none, .int .i64 (fromE (ps.map PgIn.pg))]) ∧ Below w.heap.size w w')

set_option maxHeartbeats 4000000 in
theorem From_any (w : World) (A : Option Addr) (cap : Nat) (ps : List PgIn) (hP : PgsAt w.heap.size w A ps) (hn : ps.length ≤ 4096) :
    Calls Try.prog 18 #[.slice A ps.length cap] w (FromPost w ps) := by
  have hd : decide ((4096 : Int) < (ps.length : Int)) = false := by simp; omega
  have hE : fromE (ps.map PgIn.pg) = wrongTo (ps.map PgIn.pg) ps.length := by simp only [fromE, List.length_map, if_neg (show ¬ 4096 < ps.length by omega)]
  go_enter Try.func18, Try.ntmps18
  go_wp2_with (go_at_call 54; refine (New_any _).mono ?_; rintro e w0 ⟨p, mb, rfl, hM0, hB0, hp, hmb⟩)
  go_loopw [13] (fun i wr => ∃ (k : Nat) (fs : List Fr), k ≤ ps.length ∧ i = .int .i64 k ∧ wrongTo (ps.map PgIn.pg) k = 0 ∧ fs.map Fr.pg = (ps.take k).map PgIn.pg ∧ MemAt wr p mb fs ∧ (∀ f ∈ fs, w.heap.size ≤ f.blk) ∧ Below w.heap.size w wr) (fun i _ => ps.length - (intOf i).toNat)
  case atStart => exact ⟨0, [], by omega, rfl, rfl, rfl, hM0, by simp, hB0⟩
  case round =>
    obtain ⟨k, fs, hk, rfl, hw0, hfs, hM, hge, hB⟩ := hrel
    have HW := Lib.hid (And.intro hw0 hfs)
    have HE := Lib.hid hE
    clear hM0 hB0 hw0 hfs hE
    have hPr := hP.below hB
    by_cases hlt : k < ps.length
    · have hd3 : decide ((k : Int) < (ps.length : Int)) = true := by simp; omega
      obtain ⟨b, o, rfl, hbl, c1, c2, c3⟩ := hPr.cells k hlt
      have hbz : b < wr.heap.size := Nat.lt_of_lt_of_le hbl hB.size
      have t9 : ((ps[k].base : Int)).tmod 4096 = (ps[k].base : Int) % 4096 := Int.tmod_eq_emod_of_nonneg (by omega)
      by_cases hw : wrongAt (ps.map PgIn.pg) k = 20
      · have hfin : fromE (ps.map PgIn.pg) = 20 := by
          rw [HE.out]
          exact wrongTo_mono (k := k + 1) (by simp only [wrongTo, HW.out.1, if_true, hw]) (by decide) (by omega)
        have HF := Lib.hid hfin
        clear hfin
        have HC : Hid (Below w.heap.size w wr) := hB
        rcases from_tests hlt hw with t1 | ⟨t1, t2⟩ | ⟨t1, t2, t0, t3⟩ | ⟨t1, t2, t0, t4⟩ | ⟨t1, t2, t0, t3, t4⟩
        · clear hw
          go_wp2
          go_quiet (fail)
          go_wp2
          go_ret2
          exact .inr ⟨by rw [HF.out]; decide, by rw [HF.out]; rfl, bdrewN (hB.alloc hB.size _) _⟩
        · clear hw
          go_wp2
          go_quiet (fail)
          go_wp2
          go_ret2
          exact .inr ⟨by rw [HF.out]; decide, by rw [HF.out]; rfl, bdrewN (hB.alloc hB.size _) _⟩
        · clear hw
          have t5 : decide (0 < k) = true := by simp; omega
          have t5b : (1 : Int) ≤ (k : Int) := by omega
          have t5c : IntKind.i64.wrap ((k : Int) - 1) = (k : Int) - 1 := by rw [IntKind.wrap_i64]; omega
          have t6 : ((k : Int) - 1).toNat = k - 1 := by omega
          have t7 : (0 : Int) ≤ (k : Int) - 1 := by omega
          have t8 : (k : Int) - 1 < (ps.length : Int) := by omega
          obtain ⟨b2, o2, e2, hbl2, d1, d2, d3⟩ := hPr.cells (k - 1) (by omega)
          simp only [Option.some.injEq, Addr.mk.injEq, and_true] at e2
          obtain ⟨rfl, rfl⟩ := e2
          clear t0
          go_wp2
          go_quiet (fail)
          go_wp2
          go_ret2
          exact .inr ⟨by rw [HF.out]; decide, by rw [HF.out]; rfl, bdrewN (hB.alloc hB.size _) _⟩
        · clear hw
          have t5 : decide (0 < k) = false := by simp; omega
          clear t0
          go_wp2
          go_quiet (fail)
          go_wp2
          go_ret2
          exact .inr ⟨by rw [HF.out]; decide, by rw [HF.out]; rfl, bdrewN (hB.alloc hB.size _) _⟩
        · clear hw
          have t5 : decide (0 < k) = true := by simp; omega
          have t5b : (1 : Int) ≤ (k : Int) := by omega
          have t5c : IntKind.i64.wrap ((k : Int) - 1) = (k : Int) - 1 := by rw [IntKind.wrap_i64]; omega
          have t6 : ((k : Int) - 1).toNat = k - 1 := by omega
          have t7 : (0 : Int) ≤ (k : Int) - 1 := by omega
          have t8 : (k : Int) - 1 < (ps.length : Int) := by omega
          obtain ⟨b2, o2, e2, hbl2, d1, d2, d3⟩ := hPr.cells (k - 1) (by omega)
          simp only [Option.some.injEq, Addr.mk.injEq, and_true] at e2
          obtain ⟨rfl, rfl⟩ := e2
          clear t0
          go_wp2
          go_quiet (fail)
          go_wp2
          go_ret2
          exact .inr ⟨by rw [HF.out]; decide, by rw [HF.out]; rfl, bdrewN (hB.alloc hB.size _) _⟩
      · obtain ⟨t1, t2, t3, t4, t10, t11, t12⟩ := from_right hlt hw
        clear hw
        have hbs : Bs wr.heap.size wr ps[k].A ps[k].data := (hPr.bytes ps[k] (List.getElem_mem hlt)).more hB.size
        have hA : ∃ ad, ps[k].A = some ad := by
          obtain ⟨b3, o3, e3, _⟩ := hbs 0 (by rw [bcells_length]; omega)
          exact ⟨_, e3⟩
        obtain ⟨ad, hA⟩ := hA
        rw [hA] at c3 hbs
        have hcM := hM.cell
        have hpl := hM.lt.1
        rcases (show (decide (0 < k) = false) ∨ (decide (0 < k) = true ∧ (1 : Int) ≤ (k : Int) ∧ IntKind.i64.wrap ((k : Int) - 1) = (k : Int) - 1 ∧ ((k : Int) - 1).toNat = k - 1 ∧ (0 : Int) ≤ (k : Int) - 1 ∧ (k : Int) - 1 < (ps.length : Int) ∧
            decide (ps[k].base ≤ (ps[k - 1]'(by omega)).base) = false ∧ wr.cell? ⟨b, o + (k - 1) * 3, none⟩ = some (.int .u64 ((ps[k - 1]'(by omega)).base : Int))) by
          by_cases h0 : k = 0
          · exact .inl (by simp [h0])
          · obtain ⟨b2, o2, e2, hbl2, d1, d2, d3⟩ := hPr.cells (k - 1) (by omega)
            simp only [Option.some.injEq, Addr.mk.injEq, and_true] at e2
            obtain ⟨rfl, rfl⟩ := e2
            exact .inr ⟨by simp; omega, by omega, by rw [IntKind.wrap_i64]; omega, by omega, by omega, by omega, t3 h0, d1⟩) with t5 | ⟨t5, t5b, t5c, t6, t7, t8, t3, d1⟩
        all_goals
          cases ha : allowedB ps[k].perm with
          | false =>
            have hfin : fromE (ps.map PgIn.pg) = 21 := by
              rw [HE.out]
              refine wrongTo_mono (k := k + 1) ?_ (by decide) (by omega)
              simp only [wrongTo, HW.out.1, if_true]
              rw [t12, ha]
              rfl
            have HF := Lib.hid hfin
            clear hfin t12
            go_wp2
            go_quiet (fail)
            go_wp2_with (go_at_call 55; refine (allowed_all _ _).mono ?_; rw [ha]; rintro e w' ⟨rfl, rfl⟩)
            go_ret2
            exact .inr ⟨by rw [HF.out]; decide, by rw [HF.out]; rfl, bdrewN (hB.alloc hB.size _) _⟩
          | true =>
            have hnx : wrongTo (ps.map PgIn.pg) (k + 1) = 0 := by
              simp only [wrongTo, HW.out.1, if_true]
              rw [t12, ha]
              rfl
            have HN := Lib.hid hnx
            clear hnx t12
            go_wp2
            go_quiet (fail)
            go_wp2_with (go_at_call 55; refine (allowed_all _ _).mono ?_; rw [ha]; rintro e w' ⟨rfl, rfl⟩)
            obtain ⟨W1, hW1⟩ : ∃ W1 : World, W1 = ((wr.alloc (.cells #[.int .u64 (ps[k].base : Int), .int .i64 ps[k].perm, .slice (some ad) 4096 ps[k].cap] 71)).drewN nq) := ⟨_, rfl⟩
            rw [← hW1]
            obtain ⟨hBW, hsz, g1, g2, g3, g4⟩ := page_block wr W1 _ _ _ _ hW1 hcM hpl
            have hM1 := hM.below hM.lt hBW
            have hbs1 : Bs W1.heap.size W1 (some ad) ps[k].data := (hbs.below hBW).more (by omega)
            have hno : frAt fs ps[k].base = none := from_fresh HW.out.2 HN.out hlt
            have hM1d : MemAt W1.drew p mb fs := hM1.keep rfl rfl (fun _ _ => rfl)
            have hpm := hM.p_ne_mb
            have hsm : wr.heap.size ≠ mb := Nat.ne_of_gt hM.lt.2.1
            have hlt4 : ∀ f ∈ fs, f.blk < W1.heap.size := fun f hf => (hM1.pages f hf).lt
            have HX := Lib.hid (And.intro hno hlt4)
            clear hW1 c1 c2 c3 hM hbs hcM hno hlt4 t3 hPr
            go_region_held3 (fun w' => w'.cell? ⟨p, 0, none⟩ = some (.map (some mb)) ∧ w'.cell? ⟨wr.heap.size, 0, none⟩ = some (.int .u64 (ps[k].base : Int)) ∧ w'.cell? ⟨wr.heap.size, 1, none⟩ = some (.int .i64 ps[k].perm) ∧ w'.cell? ⟨wr.heap.size, 2, none⟩ = some (.slice (some ad) 4096 ps[k].cap))
              (first | exact ⟨g1, g2, g3, g4⟩ | exact ⟨k1, k2, k3, k4⟩ | exact ⟨(World.cell?_of_block (setObjW_other _ _ _ _ hpm)).trans k1, (World.cell?_of_block (setObjW_other _ _ _ _ hsm)).trans k2, (World.cell?_of_block (setObjW_other _ _ _ _ hsm)).trans k3, (World.cell?_of_block (setObjW_other _ _ _ _ hsm)).trans k4⟩)
              ((go_at_call 56; refine (bclone_n W1.drew ad 4096 ps[k].cap ps[k].data t11 hbs1 (by omega)).mono ?_; rintro e w2 ⟨v, rfl, hown, hne, hb2⟩; obtain ⟨g, cp, O, rfl, hg, hup, hM2⟩ := push_clone (hM1d.below hM1d.lt hb2) hown t11 HX.out.2 HX.out.1 t10; have k1 := (hb2.cell (p := ⟨p, 0, none⟩) (Nat.lt_trans hpl hsz)).trans g1; have k2 := (hb2.cell (p := ⟨wr.heap.size, 0, none⟩) hsz).trans g2; have k3 := (hb2.cell (p := ⟨wr.heap.size, 1, none⟩) hsz).trans g3; have k4 := (hb2.cell (p := ⟨wr.heap.size, 2, none⟩) hsz).trans g4))
            go_wp2
            go_roundw
            case rel =>
              refine ⟨k + 1, fs ++ [⟨ps[k].base, ps[k].perm, g, cp, ps[k].data⟩], by omega, by go_num, HN.out, ?_, hM2, ?_, ?_⟩
              · rw [List.map_append, HW.out.2, take_map_succ PgIn.pg ps k hlt]; rfl
              · intro f hf
                rcases List.mem_append.1 hf with hf | hf
                · exact hge f hf
                · obtain rfl := List.mem_singleton.1 hf
                  have h1 := hB.size
                  have h2 := hBW.size
                  have h3 : W1.heap.size ≤ g := hg
                  exact Nat.le_trans h1 (Nat.le_trans h2 h3)
              · exact below_setObjW ((hB.trans (hBW.mono hB.size)).drew.trans (hb2.mono (Nat.le_trans hB.size hBW.size))) hmb O
            case measure => simp [intOf]; omega
    · have hd3 : decide ((k : Int) < (ps.length : Int)) = false := by simp; omega
      obtain rfl : k = ps.length := by omega
      have hfin : fromE (ps.map PgIn.pg) = 0 := HE.out.trans HW.out.1
      have hfs := HW.out.2
      rw [List.take_length] at hfs
      have HF := Lib.hid (And.intro hfin hfs)
      clear hfin hfs
      go_wp2
      go_ret2
      exact .inl ⟨HF.out.1, p, mb, fs, rfl, HF.out.2, hM, hp, hmb, hge, hB⟩
end Go.Proofs
