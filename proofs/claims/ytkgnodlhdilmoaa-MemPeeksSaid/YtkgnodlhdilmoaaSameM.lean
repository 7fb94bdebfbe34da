/- mem.Same of memories that have the same pages. -/
import Derived.Test.YtkgnodlhdilmoaaCloneM
import Derived.Test.YtkgnodlhdilmoaaSame2
namespace Go.Proofs
open Go Go.RowKit Go.Pat

set_option maxHeartbeats 1000000 in
theorem bEqual_any (w : World) (A1 A2 : Option Addr) (n1 n2 c1 c2 B1 B2 : Nat) (l m : List UInt8) (h1 : Bs B1 w A1 l) (h2 : Bs B2 w A2 m) (e1 : l.length = n1) (e2 : m.length = n2) :
    Calls Try.prog 85 #[.slice A1 n1 c1, .slice A2 n2 c2] w fun e w' => e = .returned (.bool (l == m)) ∧ w = w' := by
  have r1 := run_str w A1 n1 c1 B1 l h1 e1
  have r2 := run_str w A2 n2 c2 B2 m h2 e2
  go_enter Try.func85, Try.ntmps85
  go_wp2
  go_ret
  exact ⟨rfl, rfl⟩

set_option maxHeartbeats 1000000 in
theorem SameIt_same (w : World) (base : Nat) (perm : Int) (A1 A2 : Option Addr) (n c1 c2 : Nat) (l : List UInt8) (h1 : Bs w.heap.size w A1 l) (h2 : Bs w.heap.size w A2 l) (hn : l.length = n) :
    Calls Try.prog 84 #[.agg #[.int .u64 (base : Int), .int .i64 perm, .slice A1 n c1], .agg #[.int .u64 (base : Int), .int .i64 perm, .slice A2 n c2]] w fun e w' => e = .returned (.bool true) ∧ Below w.heap.size w w' := by
  have hB : Below w.heap.size w ((w.alloc (.cells #[.int .u64 (base : Int), .int .i64 perm, .slice A1 n c1] 71)).alloc (.cells #[.int .u64 (base : Int), .int .i64 perm, .slice A2 n c2] 71)) := ((Below.refl _ _).alloc (Nat.le_refl _) _).alloc (by simp) _
  go_enter Try.func84, Try.ntmps84
  go_wp2_with fail
  refine Calls.mono (bEqual_any _ A1 A2 n n c1 c2 _ _ l l (h1.below hB) (h2.below hB) hn hn) ?_
  rintro e w' ⟨rfl, rfl⟩
  go_wp2
  go_ret
  exact ⟨rfl, hB⟩

set_option maxRecDepth 20000 in
set_option maxHeartbeats 4000000 in
theorem EqualFunc_same (w : World) (A1 A2 : Option Addr) (n c1 c2 : Nat) (p1 p2 : List PgIn) (h1 : PgsAt w.heap.size w A1 p1) (h2 : PgsAt w.heap.size w A2 p2) (hn1 : p1.length = n) (hn2 : p2.length = n) (heq : p1.map PgIn.pg = p2.map PgIn.pg) :
    Calls Try.prog 83 #[.slice A1 n c1, .slice A2 n c2, .func (.func 84) #[] #[]] w fun e w' => e = .returned (.bool true) ∧ Below w.heap.size w w' := by
  have hfew := h1.few
  rw [hn1] at hfew
  have HN := Lib.hid (And.intro hn1 (And.intro hn2 heq))
  clear hn1 hn2 heq
  have t0 : ((n : Int) != (n : Int)) = false := by simp
  go_enter Try.func83, Try.ntmps83
  go_wp2_with fail
  go_loopw [17] (fun i wr => ∃ j : Nat, j ≤ n ∧ i = .int .i64 j ∧ Below w.heap.size w wr) (fun i _ => n - (intOf i).toNat)
  case atStart => exact ⟨0, by omega, rfl, Below.refl _ _⟩
  case round =>
    obtain ⟨j, hj, rfl, hB⟩ := hrel
    have hP1 := h1.below hB
    have hP2 := h2.below hB
    by_cases hlt : j < n
    · have hd3 : decide ((j : Int) < (n : Int)) = true := decide_eq_true (by omega)
      have hji : (j : Int) < (n : Int) := by omega
      have hj1 : j < p1.length := by rw [HN.out.1]; exact hlt
      have hj2 : j < p2.length := by rw [HN.out.2.1]; exact hlt
      obtain ⟨b1, o1, rfl, hb1, q0, q1, q2⟩ := hP1.cells j hj1
      obtain ⟨b2, o2, rfl, hb2, r0, r1, r2⟩ := hP2.cells j hj2
      have hx := congrArg (fun l => l[j]?) HN.out.2.2
      simp only [List.getElem?_map, List.getElem?_eq_getElem hj1, List.getElem?_eq_getElem hj2, Option.map_some] at hx
      obtain ⟨x, hxe⟩ : ∃ x, x = p1[j] := ⟨_, rfl⟩
      obtain ⟨y, hye⟩ : ∃ y, y = p2[j] := ⟨_, rfl⟩
      rw [← hxe] at q0 q1 q2 hx
      rw [← hye] at r0 r1 r2 hx
      have hb1' := hP1.bytes x (by rw [hxe]; exact List.getElem_mem _)
      have hb2' := hP2.bytes y (by rw [hye]; exact List.getElem_mem _)
      obtain ⟨xb, xp, xA, xc, xd⟩ := x
      obtain ⟨yb, yp, yA, yc, yd⟩ := y
      simp only [PgIn.pg, Option.some.injEq, Pgd.mk.injEq] at hx
      obtain ⟨rfl, rfl, rfl⟩ := hx
      simp only at q0 q1 q2 r0 r1 r2 hb1' hb2'
      clear hxe hye
      have hs1 := hB.size
      have hba : Below wr.heap.size wr ((wr.alloc (.cells #[.int .u64 (xb : Int), .int .i64 xp, .slice xA xd.length xc] 71)).alloc (.cells #[.int .u64 (xb : Int), .int .i64 xp, .slice yA xd.length yc] 71)) := ((Below.refl _ _).alloc (Nat.le_refl _) _).alloc (by simp) _
      have hBa := hB.trans (hba.mono hs1)
      have hb1a : Below wr.heap.size wr (wr.alloc (.cells #[.int .u64 (xb : Int), .int .i64 xp, .slice xA xd.length xc] 71)) := (Below.refl _ _).alloc (Nat.le_refl _) _
      have hb2w : b2 < wr.heap.size := Nat.lt_of_lt_of_le hb2 hs1
      have s0 := (hb1a.cell (p := ⟨b2, o2 + j * 3, none⟩) hb2w).trans r0
      have s1 := (hb1a.cell (p := ⟨b2, o2 + j * 3 + 1, none⟩) hb2w).trans r1
      have s2 := (hb1a.cell (p := ⟨b2, o2 + j * 3 + 2, none⟩) hb2w).trans r2
      go_wp2_with fail
      refine Calls.mono (SameIt_same _ xb xp xA yA xd.length xc yc xd ((hb1'.below (hba.mono hs1)).mono hBa.size) ((hb2'.below (hba.mono hs1)).mono hBa.size) rfl) ?_
      rintro e w3 ⟨rfl, hB3⟩
      have hB4 := hBa.trans (hB3.mono hBa.size)
      clear q0 q1 q2 r0 r1 r2 s0 s1 s2 hb1a hba hBa hB3
      go_wp2
      go_roundw
      case rel => exact ⟨j + 1, by omega, by go_num, hB4⟩
      case measure => simp [intOf]; omega
    · have hd3 : decide ((j : Int) < (n : Int)) = false := decide_eq_false (by omega)
      go_wp2
      go_ret
      exact ⟨rfl, hB⟩

theorem Same_any (w : World) (q1 q2 : Option Addr) (fs1 fs2 : List Fr) (hM1 : MemN w.heap.size w q1 fs1) (hM2 : MemN w.heap.size w q2 fs2) (hl1 : fs1.length ≤ 90000) (heq : (sortF fs1).map Fr.pg = (sortF fs2).map Fr.pg) :
    Calls Try.prog 47 #[.pointer q1, .pointer q2] w fun e w' => e = .returned (.bool true) ∧ Below w.heap.size w w' := by
  have hl2 : fs2.length ≤ 90000 := by have := congrArg List.length heq; simp [sortF_length] at this; omega
  have HN := Lib.hid heq
  clear heq
  go_enter Try.func47, Try.ntmps47
  go_wp2_with fail
  refine Calls.mono (Pages_any q1 fs1 hl1 w hM1) ?_
  rintro e w1 ⟨v1, s1, rfl, ho1, he1, hB1⟩
  obtain ⟨A1, c1, rfl, hP1⟩ := ho1.pgs (by have := congrArg List.length he1; simp [sortF_length] at this; omega)
  have hM2' := (hM2.below hB1).mono hB1.size
  go_wp2_with fail
  refine Calls.mono (Pages_any q2 fs2 hl2 w1 hM2') ?_
  rintro e w2 ⟨v2, s2, rfl, ho2, he2, hB2⟩
  obtain ⟨A2, c2, rfl, hP2⟩ := ho2.pgs (by have := congrArg List.length he2; simp [sortF_length] at this; omega)
  have hpq : s1.map PgIn.pg = s2.map PgIn.pg := by rw [he1, he2, HN.out]
  have hll : s2.length = s1.length := by have := congrArg List.length hpq; simpa using this.symm
  rw [hll]
  go_wp2_with fail
  refine Calls.mono (EqualFunc_same w2 A1 A2 s1.length c1 c2 s1 s2 ((hP1.below hB2).mono hB2.size) hP2 rfl hll hpq) ?_
  rintro e w3 ⟨rfl, hB3⟩
  go_wp2
  go_ret
  exact ⟨rfl, (hB1.trans (hB2.mono hB1.size)).trans (hB3.mono (Nat.le_trans hB1.size hB2.size))⟩
end Go.Proofs
