/- patinaref02.Perm. -/
import Derived.Test.YtemngapfnkokiaaGreatDoorMemTop
import Derived.WalkSpells
import Derived.Test.YtemngapfnkokiaaGreatDoorCpu
import Derived.Test.YtemngapfnkokiaaGreatDoorFetchM
import Derived.BigQuiet
import Derived.Test.YtemngapfnkokiaaGreatDoorRefRK
import Derived.Test.YtemngapfnkokiaaGreatDoorBufs
import Derived.StillTailTactics
namespace Go.Proofs
open Go Go.RowKit Go.Pat
theorem rPerm2_all (perm : Int) (w : World) : Calls Tryz.prog 26 #[.int .i64 perm] w fun e w' => e = .returned (.bool (allowedB perm)) ∧ w = w' := by
  have e1 : decide (1 ≤ perm) = decide (0 < perm) := rfl
  cases h1 : decide (1 ≤ perm) <;> cases h2 : decide (perm ≤ 7) <;> cases h3 : bits BinOp.and IntKind.i64 perm 3 != 3
  all_goals
    have hf : allowedB perm = allowedB perm := rfl
    conv at hf => rhs; simp only [allowedB, ← e1, h1, h2, h3, Bool.and_self, Bool.and_true, Bool.and_false, Bool.true_and, Bool.false_and]
    clear e1
    go_enter Tryz.func26, Tryz.ntmps26
    go_wp2
    go_ret
    exact ⟨by rw [hf]; rfl, rfl⟩
end Go.Proofs

/- Pages that are right. -/
namespace Go.Pat
open Go Go.RowKit
structure PgOK (p : Pgd) : Prop where
  page : p.base % 4096 = 0
  top : p.base < 281474976710656
  len : p.data.length = 4096
  perm : allowedB p.perm = true
/-- pages that are right. -/
structure PsOK (ps : List Pgd) : Prop where
  ok : ∀ p ∈ ps, PgOK p
  rises : ps.Pairwise (fun a b => a.base < b.base)
theorem psOK_of {ps : List Pgd} (h : fromE ps = 0) : PsOK ps := by
  unfold fromE at h
  split at h
  · cases h
  · refine ⟨fun p hp => ?_, List.pairwise_iff_getElem.2 fun i j hi hj hij => wrongTo_rises (Nat.le_refl _) h i j hj hij⟩
    obtain ⟨k, hk, rfl⟩ := List.getElem_of_mem hp
    obtain ⟨h1, h2, -, h4, h5⟩ := wrongAt_ok hk (wrongTo_ok h k hk)
    exact ⟨h1, h2, h4, h5⟩
end Go.Pat

/- patinaref02.Wrong: what is wrong with pages: as mem.From says. -/
namespace Go.Proofs
open Go Go.RowKit Go.Pat

set_option maxRecDepth 20000 in
set_option maxHeartbeats 4000000 in
theorem rWrong2_any (w : World) (A : Option Addr) (cap n : Nat) (ps : List PgIn) (hP : PgsAt w.heap.size w A ps) (hn : ps.length = n) :
    Calls Tryz.prog 15 #[.slice A n cap] w fun e w' => e = .returned (.int .i64 (fromE (ps.map PgIn.pg))) ∧ Below w.heap.size w w' := by
  subst hn
  by_cases hbig : 4096 < ps.length
  · have hd : decide ((4096 : Int) < (ps.length : Int)) = true := decide_eq_true (by omega)
    have HF := Lib.hid (show fromE (ps.map PgIn.pg) = 20 by unfold fromE; rw [List.length_map, if_pos hbig])
    clear hbig
    go_enter Tryz.func15, Tryz.ntmps15
    go_wp2
    go_ret
    exact ⟨by rw [HF.out]; rfl, Below.refl _ _⟩
  have hd : decide ((4096 : Int) < (ps.length : Int)) = false := by simp; omega
  have hE : fromE (ps.map PgIn.pg) = wrongTo (ps.map PgIn.pg) ps.length := by simp only [fromE, List.length_map, if_neg hbig]
  have HE := Lib.hid hE
  clear hE
  go_enter Tryz.func15, Tryz.ntmps15
  go_wp2_with fail
  go_loopw [3] (fun i wr => ∃ (k : Nat), k ≤ ps.length ∧ i = .int .i64 k ∧ wrongTo (ps.map PgIn.pg) k = 0 ∧ Below w.heap.size w wr) (fun i _ => ps.length - (intOf i).toNat)
  case atStart => exact ⟨0, by omega, rfl, rfl, Below.refl _ _⟩
  case round =>
    obtain ⟨k, hk, rfl, hw0, hB⟩ := hrel
    have HW := Lib.hid hw0
    clear hw0
    have hPr := hP.below hB
    by_cases hlt : k < ps.length
    · have hd3 : decide ((k : Int) < (ps.length : Int)) = true := by simp; omega
      obtain ⟨b, o, rfl, hbl, c1, c2, c3⟩ := hPr.cells k hlt
      have hbz : b < wr.heap.size := Nat.lt_of_lt_of_le hbl hB.size
      have t9 : ((ps[k].base : Int)).tmod 4096 = (ps[k].base : Int) % 4096 := Int.tmod_eq_emod_of_nonneg (by omega)
      by_cases hw : wrongAt (ps.map PgIn.pg) k = 20
      · have hfin : fromE (ps.map PgIn.pg) = 20 := by
          rw [HE.out]
          exact wrongTo_mono (k := k + 1) (by simp only [wrongTo, HW.out, if_true, hw]) (by decide) (by omega)
        have HF := Lib.hid hfin
        clear hfin
        rcases from_tests hlt hw with t1 | ⟨t1, t2⟩ | ⟨t1, t2, t0, t3⟩ | ⟨t1, t2, t0, t4⟩ | ⟨t1, t2, t0, t3, t4⟩
        · clear hw
          go_wp2
          go_quiet (fail)
          go_wp2
          go_ret
          exact ⟨by rw [HF.out]; rfl, bdrewN (hB.alloc hB.size _) _⟩
        · clear hw
          go_wp2
          go_quiet (fail)
          go_wp2
          go_ret
          exact ⟨by rw [HF.out]; rfl, bdrewN (hB.alloc hB.size _) _⟩
        · clear hw
          have t5 : decide (0 < k) = true := by simp; omega
          have t5b : (1 : Int) ≤ (k : Int) := by omega
          have t5c : IntKind.i64.wrap ((k : Int) - 1) = (k : Int) - 1 := by rw [IntKind.wrap_i64]; omega
          have t6 : ((k : Int) - 1).toNat = k - 1 := by omega
          have t7 : (0 : Int) ≤ (k : Int) - 1 := by omega
          have t8 : (k : Int) - 1 < (ps.length : Int) := by omega
          obtain ⟨b2, o2, e2, hbl2, d1, d2, d3⟩ := hPr.cells (k - 1) (by omega)
          simp only [Option.some.injEq, Addr.mk.injEq, and_true] at e2
          obtain ⟨rfl, rfl⟩ := e2
          clear t0
          go_wp2
          go_quiet (fail)
          go_wp2
          go_ret
          exact ⟨by rw [HF.out]; rfl, bdrewN (hB.alloc hB.size _) _⟩
        · clear hw
          have t5 : decide (0 < k) = false := by simp; omega
          clear t0
          go_wp2
          go_quiet (fail)
          go_wp2
          go_ret
          exact ⟨by rw [HF.out]; rfl, bdrewN (hB.alloc hB.size _) _⟩
        · clear hw
          have t5 : decide (0 < k) = true := by simp; omega
          have t5b : (1 : Int) ≤ (k : Int) := by omega
          have t5c : IntKind.i64.wrap ((k : Int) - 1) = (k : Int) - 1 := by rw [IntKind.wrap_i64]; omega
          have t6 : ((k : Int) - 1).toNat = k - 1 := by omega
          have t7 : (0 : Int) ≤ (k : Int) - 1 := by omega
          have t8 : (k : Int) - 1 < (ps.length : Int) := by omega
          obtain ⟨b2, o2, e2, hbl2, d1, d2, d3⟩ := hPr.cells (k - 1) (by omega)
          simp only [Option.some.injEq, Addr.mk.injEq, and_true] at e2
          obtain ⟨rfl, rfl⟩ := e2
          clear t0
          go_wp2
          go_quiet (fail)
          go_wp2
          go_ret
          exact ⟨by rw [HF.out]; rfl, bdrewN (hB.alloc hB.size _) _⟩
      · obtain ⟨t1, t2, t3, t4, t10, t11, t12⟩ := from_right hlt hw
        clear hw
        rcases (show (decide (0 < k) = false) ∨ (decide (0 < k) = true ∧ (1 : Int) ≤ (k : Int) ∧ IntKind.i64.wrap ((k : Int) - 1) = (k : Int) - 1 ∧ ((k : Int) - 1).toNat = k - 1 ∧ (0 : Int) ≤ (k : Int) - 1 ∧ (k : Int) - 1 < (ps.length : Int) ∧
            decide (ps[k].base ≤ (ps[k - 1]'(by omega)).base) = false ∧ wr.cell? ⟨b, o + (k - 1) * 3, none⟩ = some (.int .u64 ((ps[k - 1]'(by omega)).base : Int))) by
          by_cases h0 : k = 0
          · exact .inl (by simp [h0])
          · obtain ⟨b2, o2, e2, hbl2, d1, d2, d3⟩ := hPr.cells (k - 1) (by omega)
            simp only [Option.some.injEq, Addr.mk.injEq, and_true] at e2
            obtain ⟨rfl, rfl⟩ := e2
            exact .inr ⟨by simp; omega, by omega, by rw [IntKind.wrap_i64]; omega, by omega, by omega, by omega, t3 h0, d1⟩) with t5 | ⟨t5, t5b, t5c, t6, t7, t8, t3, d1⟩
        all_goals
          cases ha : allowedB ps[k].perm with
          | false =>
            have hfin : fromE (ps.map PgIn.pg) = 21 := by
              rw [HE.out]
              refine wrongTo_mono (k := k + 1) ?_ (by decide) (by omega)
              simp only [wrongTo, HW.out, if_true]
              rw [t12, ha]
              rfl
            have HF := Lib.hid hfin
            clear hfin t12
            go_wp2
            go_quiet (fail)
            go_wp2_with (go_at_call 26; refine (rPerm2_all _ _).mono ?_; rw [ha]; rintro e w' ⟨rfl, rfl⟩)
            go_ret
            exact ⟨by rw [HF.out]; rfl, bdrewN (hB.alloc hB.size _) _⟩
          | true =>
            have hnx : wrongTo (ps.map PgIn.pg) (k + 1) = 0 := by
              simp only [wrongTo, HW.out, if_true]
              rw [t12, ha]
              rfl
            have HN := Lib.hid hnx
            clear hnx t12
            go_wp2
            go_quiet (fail)
            go_wp2_with (go_at_call 26; refine (rPerm2_all _ _).mono ?_; rw [ha]; rintro e w' ⟨rfl, rfl⟩)
            go_roundw
            case rel => exact ⟨k + 1, by omega, by go_num, HN.out, bdrewN (hB.alloc hB.size _) _⟩
            case measure => simp [intOf]; omega
    · have hd3 : decide ((k : Int) < (ps.length : Int)) = false := by simp; omega
      obtain rfl : k = ps.length := by omega
      have HF := Lib.hid (HE.out.trans HW.out)
      go_wp2
      go_ret
      exact ⟨by rw [HF.out]; rfl, hB⟩
end Go.Proofs

/- The reference machine's New: states that are not right. -/
namespace Go.Proofs
open Go Go.RowKit Go.Pat
set_option maxRecDepth 20000 in
set_option maxHeartbeats 64000000 in
theorem r3new_bad (w : World) (c : Mc) (OA PA IA : Option Addr) (oc pc ic : Nat) (ps : List PgIn) (inp : List UInt8) (hl : c.regs.length = 32) (hr : rightB c inp.length = false) :
    Calls Tryz.prog 5 #[.agg (c.cells (.slice OA c.out.length oc)).toArray, .slice PA ps.length pc, .slice IA inp.length ic] w fun e w' => e = .returned (.tuple #[.pointer none, .int .i64 1]) ∧ Below w.heap.size w w' := by
  obtain ⟨ov0, hov⟩ : ∃ ov0 : Value, ov0 = .slice OA c.out.length oc := ⟨_, rfl⟩
  rw [← hov]
  obtain ⟨cs, hcs⟩ : ∃ cs, cs = (c.cells ov0).toArray := ⟨_, rfl⟩
  obtain ⟨W, hW⟩ : ∃ W : World, W = w.alloc (.cells cs 27) := ⟨_, rfl⟩
  have hB : Below w.heap.size w W := by rw [hW]; exact (Below.refl _ _).alloc (Nat.le_refl _) _
  have h1 : W.heap[w.heap.size]? = some (.cells cs 27 (0, 0)) := by rw [hW]; exact heap_alloc_new w _
  have a1 : W.cell? ⟨w.heap.size, 1, none⟩ = some (.int .u64 ((c.reg 0 : Nat) : Int)) := (obj_cell h1 1).trans (by rw [hcs, List.getElem?_toArray]; exact cget_reg hl 0 (by omega))
  have a33 : W.cell? ⟨w.heap.size, 33, none⟩ = some (.int .i64 c.steps) := (obj_cell h1 33).trans (by rw [hcs, List.getElem?_toArray]; exact cget_tail hl 0 (by omega))
  have a35 : W.cell? ⟨w.heap.size, 35, none⟩ = some (.int .i64 c.code) := (obj_cell h1 35).trans (by rw [hcs, List.getElem?_toArray]; exact cget_tail hl 2 (by omega))
  have a36 : W.cell? ⟨w.heap.size, 36, none⟩ = some (.int .i64 c.fault) := (obj_cell h1 36).trans (by rw [hcs, List.getElem?_toArray]; exact cget_tail hl 3 (by omega))
  have a38 : W.cell? ⟨w.heap.size, 38, none⟩ = some (.int .i64 c.inn) := (obj_cell h1 38).trans (by rw [hcs, List.getElem?_toArray]; exact cget_tail hl 5 (by omega))
  rw [← hcs]
  unfold rightB at hr
  generalize inp.length = n at *
  generalize c.reg 0 = r at *
  generalize c.steps = st at *
  generalize c.code = co at *
  generalize c.fault = fa at *
  generalize c.inn = inn at *
  have HW := Lib.hid hW
  clear hW h1 hcs hl
  go_enter Tryz.func5, Tryz.ntmps5
  go_upto_region 1 with fail
  rw [← HW.out]
  cases t1 : ((r : Int) != 0)
  rotate_left
  · clear hr
    go_wp2
    go_ret2
    exact ⟨rfl, hB⟩
  cases t2 : (decide (st < 0))
  rotate_left
  · clear hr
    go_wp2
    go_ret2
    exact ⟨rfl, hB⟩
  cases t3 : (decide (co < 0))
  rotate_left
  · clear hr
    go_wp2
    go_ret2
    exact ⟨rfl, hB⟩
  cases t4 : (decide (255 < co))
  rotate_left
  · clear hr
    go_wp2
    go_ret2
    exact ⟨rfl, hB⟩
  cases t5 : (decide (inn < 0))
  rotate_left
  · clear hr
    go_wp2
    go_ret2
    exact ⟨rfl, hB⟩
  cases t6 : (decide ((n : Int) < inn))
  rotate_left
  · clear hr
    go_wp2
    go_ret2
    exact ⟨rfl, hB⟩
  cases t7 : (fa != 0)
  · exfalso; simp only [rightG, Bool.and_eq_false_iff, Bool.or_eq_false_iff, beq_eq_false_iff_ne, decide_eq_false_iff_not, bne_eq_false_iff_eq] at *; omega
  cases t8 : (decide (fa < 30))
  rotate_left
  · clear hr
    go_wp2
    go_ret2
    exact ⟨rfl, hB⟩
  cases t9 : (decide (34 < fa))
  · exfalso; simp only [rightG, Bool.and_eq_false_iff, Bool.or_eq_false_iff, beq_eq_false_iff_ne, decide_eq_false_iff_not, bne_eq_false_iff_eq, bne_iff_ne] at *; omega
  clear hr
  go_wp2
  go_ret2
  exact ⟨rfl, hB⟩
end Go.Proofs

/- The reference machine's New: what its loop leaves. -/
namespace Go.Pat
open Go Go.RowKit
section
variable {c : Mc} {ov pv iv : Value}
theorem mset_pv (h : c.regs.length = 32) (v : Value) : (mcells c ov pv iv).set 39 v = mcells c ov v iv := by
  have hl := ccells_len (c := c) (ov := ov) h
  rw [mcells_app, mcells_app, List.set_append_right _ _ (by rw [hl]; omega), hl]
  rfl
theorem mset_iv (h : c.regs.length = 32) (v : Value) : (mcells c ov pv iv).set 40 v = mcells c ov pv v := by
  have hl := ccells_len (c := c) (ov := ov) h
  rw [mcells_app, mcells_app, List.set_append_right _ _ (by rw [hl]; omega), hl]
  rfl
end
end Go.Pat
namespace Go.Proofs
open Go Go.RowKit Go.Pat
theorem fr_of_own {w : World} {base : Nat} {v : Value} {l : List UInt8} (h : OwnB w base v l) (hl : l.length = 4096) (b : Nat) (perm : Int) :
    ∃ g cap, v = .slice (some ⟨g, 0, none⟩) l.length cap ∧ base ≤ g ∧ g < w.heap.size ∧ FrIn w ⟨b, perm, g, cap, l⟩ := by
  rcases h.2 with ⟨rfl, h0⟩ | ⟨g, cap, cur, rfl, h1, hh, hn, hm, hc, ht⟩
  · omega
  · refine ⟨g, cap, rfl, h1, lt_of_block hh, hl, by show 4096 ≤ cap; omega, hm, cur, hh, by simpa using hc, fun i hi => ?_⟩
    have h2 := congrArg (fun x => x[i]?) ht
    simp only [List.getElem?_take, Array.getElem?_toList] at h2
    rw [if_pos (by simp only at hi; omega)] at h2
    rw [h2]
    simp only at hi
    simp [bcells, bval, hi]
theorem built3_lit (x0 x1 x2 x3 x4 x5 x6 x7 x8 x9 x10 x11 x12 x13 x14 x15 x16 x17 x18 x19 x20 x21 x22 x23 x24 x25 x26 x27 x28 x29 x30 x31 x32 x33 x34 x35 x36 x37 x38 : Value) : Tryz.prog.built 42 [(0, .agg #[x0, x1, x2, x3, x4, x5, x6, x7, x8, x9, x10, x11, x12, x13, x14, x15, x16, x17, x18, x19, x20, x21, x22, x23, x24, x25, x26, x27, x28, x29, x30, x31, x32, x33, x34, x35, x36, x37, x38])] = some #[x0, x1, x2, x3, x4, x5, x6, x7, x8, x9, x10, x11, x12, x13, x14, x15, x16, x17, x18, x19, x20, x21, x22, x23, x24, x25, x26, x27, x28, x29, x30, x31, x32, x33, x34, x35, x36, x37, x38, Value.slice none 0 0, Value.slice none 0 0] := by kernel_rfl
theorem built_mach3 (cs : List Value) (h : cs.length = 39) : Tryz.prog.built 42 [(0, .agg cs.toArray)] = some (cs ++ [Value.slice none 0 0, Value.slice none 0 0]).toArray := by
  match cs, h with
  | x0 :: x1 :: x2 :: x3 :: x4 :: x5 :: x6 :: x7 :: x8 :: x9 :: x10 :: x11 :: x12 :: x13 :: x14 :: x15 :: x16 :: x17 :: x18 :: x19 :: x20 :: x21 :: x22 :: x23 :: x24 :: x25 :: x26 :: x27 :: x28 :: x29 :: x30 :: x31 :: x32 :: x33 :: x34 :: x35 :: x36 :: x37 :: x38 :: [], _ => exact built3_lit x0 x1 x2 x3 x4 x5 x6 x7 x8 x9 x10 x11 x12 x13 x14 x15 x16 x17 x18 x19 x20 x21 x22 x23 x24 x25 x26 x27 x28 x29 x30 x31 x32 x33 x34 x35 x36 x37 x38
theorem wpList_build1 {P : Program} {ops : Array Oper} {rest : List Oper} {o : Oper} {a : Act} {w : World} {Q : Exit → Act → World → Prop} (hgd : o.guard = none) (t : TypeId) (i0 : Nat) (x0 : Operand) (ho : o.op = .build t #[(i0, x0)])
    (v0 : Value) (h0 : a.eval x0 = v0) (cs : Array Value) (hb : P.built t [(i0, v0)] = some cs)
    (h : wpList P ops Q rest (a.put o.dst (.agg cs)) w) : wpList P ops Q (o :: rest) a w := by
  subst h0
  exact wpList_build hgd t _ ho (by simp [hb]) (by simpa [hb] using h)
theorem wpList_appPg {ops : Array Oper} {rest : List Oper} {o : Oper} {a : Act} {Q : Exit → Act → World → Prop} (w : World) (hgd : o.guard = none) (x y : Operand)
    (ho : o.op = .call { callee := .builtin .append, args := #[x, y], argTypes := #[28, 28] }) (base : Nat) (v : Value) (ss : List PgIn) (hx : a.eval x = v) (hown : OwnPs w base v ss)
    (b c : Nat) (s : PgIn) (hy : a.eval y = .slice (some ⟨b, 0, none⟩) 1 c) (hb : w.heap[b]? = some (.cells s.cells.toArray 54 (0, 0))) (hsb : OwnB w base (.slice s.A s.data.length s.cap) s.data)
    (hss : s.base < 18446744073709551616 ∧ s.data.length ≤ 140737488351232) (hlen : ss.length + 1 ≤ 100000) (hbase : base ≤ w.heap.size)
    (h : ∀ v' w', OwnPs w' base v' (ss ++ [s]) → w.grownBy w' v.ownBlock → wpList Tryz.prog ops Q rest (a.put o.dst v') w') :
    wpList Tryz.prog ops Q (o :: rest) a w := by
  have hcs : Cs w.heap.size w (some ⟨b, 0, none⟩) (pcells [s]) := fun i hi => by
    have hi4 : i < 3 := by simpa [pcells, PgIn.cells] using hi
    refine ⟨b, 0, rfl, lt_of_block hb, ?_⟩
    simp only [World.cell?, hb, Nat.zero_add]
    simp [pcells]
  refine wpList_app w hgd x y 28 ho Tryz_elPg base v ss.length (pcells ss) hx hown.row _ (some ⟨b, 0, none⟩) 1 c (pcells [s]) hy (by simp [pcells, PgIn.cells]) hcs (pcells_one [s]) (by simp only [maxLen]; omega) (by omega) hbase ?_
  intro v' w' h1 hg hnil hat
  exact h v' w' (hown.grow hsb hss h1 fun g hg1 hg2 => hg.block g hg1 (fun e => hg2 e.symm)) hg
/-- what lies in memory between two rounds of New's loop. -/
structure RLoop (W0 : World) (m : Nat) (c : Mc) (oc iv : Value) (ps : List PgIn) (k : Nat) (wr : World) (v : Value) (fs : List Fr) : Prop where
  kept : KeptBut (fun b => b = m) W0 wr
  cells : wr.heap[m]? = some (.cells (mcells c oc v iv).toArray 42 (0, 0))
  own : OwnPs wr W0.heap.size v (fs.map frP)
  pg : fs.map Fr.pg = (ps.take k).map PgIn.pg
  apart : (fs.map (·.blk)).Nodup
  lt : ∀ f ∈ fs, W0.heap.size ≤ f.blk ∧ f.blk < wr.heap.size
section
variable {W0 wr w' : World} {m k : Nat} {c : Mc} {oc iv v : Value} {ps : List PgIn} {fs : List Fr}
theorem RLoop.below (h : RLoop W0 m c oc iv ps k wr v fs) (hm : m < wr.heap.size) (hb : Below wr.heap.size wr w') : RLoop W0 m c oc iv ps k w' v fs :=
  ⟨h.kept.trans (.of_below hb), (hb.block _ hm).trans h.cells, h.own.below hb, h.pg, h.apart, fun f hf => ⟨(h.lt f hf).1, Nat.lt_of_lt_of_le (h.lt f hf).2 hb.size⟩⟩
theorem RLoop.len (h : RLoop W0 m c oc iv ps k wr v fs) (hk : k ≤ ps.length) : fs.length = k := by
  have := congrArg List.length h.pg
  simpa [Nat.min_eq_left hk] using this
theorem RLoop.next {w6 : World} {v' : Value} {x : PgIn} {g cap : Nat} (h : RLoop W0 m c oc iv ps k wr v fs) (hl : c.regs.length = 32) (hk : ps[k]? = some x) (hm : m < W0.heap.size)
    (hg0 : W0.heap.size ≤ g) (hg1 : g < wr.heap.size) (hga : ∀ f ∈ fs, f.blk ≠ g) (ho : OwnPs w6 W0.heap.size v' (fs.map frP ++ [⟨x.base, x.perm, some ⟨g, 0, none⟩, cap, x.data⟩])) (hgr : wr.grownBy w6 v.ownBlock) :
    RLoop W0 m c oc iv ps (k + 1) (w6.setCell ⟨m, 39, none⟩ v') v' (fs ++ [⟨x.base, x.perm, g, cap, x.data⟩]) := by
  have hvm : ∀ b, v.ownBlock = some b → W0.heap.size ≤ b := fun b hb => (h.own.row.block hb).1
  have hsz : (w6.setCell ⟨m, 39, none⟩ v').heap.size = w6.heap.size := by simp [World.setCell]
  have hsc : ∀ b, b ≠ m → (w6.setCell ⟨m, 39, none⟩ v').heap[b]? = w6.heap[b]? := fun b hb => Below.heap_setCell w6 ⟨m, 39, none⟩ v' b hb
  have hK := h.kept
  have hmr : m < wr.heap.size := Nat.lt_of_lt_of_le hm hK.size
  have hm6 : w6.heap[m]? = some (.cells (mcells c oc v iv).toArray 42 (0, 0)) := (hgr.block m hmr (fun e => by have := hvm m e.symm; omega)).trans h.cells
  refine ⟨⟨?_, ?_, ?_, ?_, ?_⟩, ?_, ?_, ?_, ?_, ?_⟩
  · exact (show (w6.setCell ⟨m, 39, none⟩ v').os = w6.os from rfl).trans (hgr.os.trans hK.os)
  · exact (show (w6.setCell ⟨m, 39, none⟩ v').tape = w6.tape from rfl).trans (hgr.tape.trans hK.tape)
  · exact (show (w6.setCell ⟨m, 39, none⟩ v').output = w6.output from rfl).trans (hgr.output.trans hK.output)
  · rw [hsz]; exact Nat.le_trans hK.size hgr.size
  · intro b hb hn
    rw [hsc b hn, hgr.block b (Nat.lt_of_lt_of_le hb hK.size) (fun e => by have := hvm b e.symm; omega)]
    exact hK.block b hb hn
  · rw [obj_set hm6 39 v', List.setIfInBounds_toArray, mset_pv hl]
  · rw [List.map_append]
    exact ho.keepT fun b cur t hc ht => hsc b (by rintro rfl; rw [hm6] at hc; cases hc; rcases ht with ht | ht <;> cases ht)
  · have h1 : (ps.take (k + 1)) = ps.take k ++ [x] := by
      rw [List.take_add_one, hk]; rfl
    rw [h1, List.map_append, List.map_append, h.pg]
    rfl
  · rw [List.map_append]
    refine List.nodup_append.2 ⟨h.apart, by simp, ?_⟩
    intro a ha b hb e
    obtain ⟨f, hf, rfl⟩ := List.mem_map.1 ha
    simp only [List.map_cons, List.map_nil, List.mem_singleton] at hb
    exact hga f hf (e.trans hb)
  · intro f hf
    rw [hsz]
    rcases List.mem_append.1 hf with hf | hf
    · exact ⟨(h.lt f hf).1, Nat.lt_of_lt_of_le (h.lt f hf).2 hgr.size⟩
    · obtain rfl := List.mem_singleton.1 hf
      exact ⟨hg0, Nat.lt_of_lt_of_le hg1 hgr.size⟩
/-- behind the loop: the machine. -/
theorem RLoop.made {B : Nat} {ov : Value} {inp : List UInt8} (h : RLoop W0 m c oc iv ps ps.length wr v fs) (hf : fromE (ps.map PgIn.pg) = 0) (hr : rightB c inp.length = true) (hl : c.regs.length = 32) (hsm : ∀ i, c.reg i < 18446744073709551616) (hpc : c.pc < 18446744073709551616)
    (hoc : OutIs oc ov c.out) (hO : OwnB W0 B ov c.out) (hI : OwnB W0 B iv inp) (hov : ∀ b, ov.ownBlock = some b → b ≠ m) (hiv : ∀ b, iv.ownBlock = some b → b ≠ m ∧ ov.ownBlock ≠ some b) (hBm : B ≤ m) (hm : m < W0.heap.size) :
    ∃ PA pc, RMade B wr c ps inp m PA pc ov iv fs := by
  have hlen := h.len (Nat.le_refl _)
  have hpg : fs.map Fr.pg = ps.map PgIn.pg := by rw [h.pg, List.take_length]
  have hok := psOK_of hf
  rw [← hpg] at hok
  have hfew : fs.length ≤ 4096 := by have := from_few hf; rw [← hpg, List.length_map] at this; exact this
  obtain ⟨PA, pc, rfl, hrow⟩ := h.own.row.form
  rw [List.length_map] at h
  have hK := h.kept
  have fr : ∀ f ∈ fs, FrIn wr f := fun f hff => by
    have h1 := h.own.bytes (frP f) (List.mem_map_of_mem hff)
    have h2 : f.data.length = 4096 := (hok.ok f.pg (List.mem_map_of_mem hff)).3
    obtain ⟨g, cap, e, -, -, h3⟩ := fr_of_own h1 h2 f.base f.perm
    simp only [frP, Value.slice.injEq, Option.some.injEq, Addr.mk.injEq] at e
    obtain ⟨⟨rfl, -, -⟩, -, rfl⟩ := e
    exact h3
  have hOw : OwnB wr B ov c.out := hO.keep fun g hg => hK.block g (hO.lt g hg).2 (hov g hg)
  have hIw : OwnB wr B iv inp := hI.keep fun g hg => hK.block g (hI.lt g hg).2 (hiv g hg).1
  refine ⟨PA, pc, ⟨⟨oc, hoc, ?_⟩, hrow, ?_, fr, h.apart, ?_, ?_, hfew, hl, hsm, hpc, hOw.base (Nat.zero_le _), hIw.base (Nat.zero_le _), rightB_inn hr, ?_, ?_⟩, hpg, ?_⟩
  · exact h.cells
  · intro a ha
    exact (h.own.row.block (g := a.block) (by subst ha; rfl)).2
  · have h1 := List.pairwise_map.1 hok.rises
    exact List.pairwise_map.2 (h1.imp fun {a b} hab => by have : a.base < b.base := hab; omega)
  · intro f hff
    exact (hok.ok f.pg (List.mem_map_of_mem hff)).2
  · intro g hg hmm
    obtain ⟨f, hff, e⟩ := List.mem_map.1 hmm
    have h1 := (h.lt f hff).1
    have h2 := (hO.lt g hg).2
    omega
  · intro g hg
    refine ⟨fun hmm => ?_, (hiv g hg).2⟩
    obtain ⟨f, hff, e⟩ := List.mem_map.1 hmm
    have h1 := (h.lt f hff).1
    have h2 := (hI.lt g hg).2
    omega
  · intro k hk
    rcases hk with (rfl | hk | hk) | ⟨a, ha, rfl⟩ | hk
    · exact hBm
    · obtain ⟨f, hff, rfl⟩ := List.mem_map.1 hk
      have := (h.lt f hff).1
      omega
    · exact (hO.block hk).1
    · have := (h.own.row.block (g := a.block) (by subst ha; rfl)).1
      omega
    · exact (hI.block hk).1
end
end Go.Proofs
