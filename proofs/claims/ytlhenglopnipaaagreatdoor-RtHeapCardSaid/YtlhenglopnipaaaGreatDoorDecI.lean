/- patina/rv.Decode: a word's instruction, the first row that fits. -/
import Derived.Test.YtlhenglopnipaaaGreatDoorRvP
import Derived.Test.YtlhenglopnipaaaGreatDoorCpu
import Derived.Laws.Tables
import Derived.Laws.CopyOwn
import Derived.Great.BuildSlice
import Derived.Test.YtlhenglopnipaaaGreatDoorBufs
import Derived.Lib.TrailingZeros
import Derived.Laws.Bits64b
import Derived.Laws.OwnMore
namespace Go.Pat
open Go Go.RowKit
/-- patina/rv.rows lies in its variable. -/
def RvRows (W : World) : Prop := 0 < W.heap.size ∧ ∀ op, op < 66 → W.rangeAt 0 (op * 4) [.int .u8 ((rvRow op).1 : Int), .int .u32 ((rvRow op).2.1 : Int), .int .u32 ((rvRow op).2.2.1 : Int), .int .u32 ((rvRow op).2.2.2 : Int)]
theorem RvRows.below {W W' : World} (h : RvRows W) (hb : Below W.heap.size W W') : RvRows W' :=
  ⟨Nat.lt_of_lt_of_le h.1 hb.size, fun op ho j v hv => (hb.cell (p := ⟨0, _, none⟩) h.1).trans (h.2 op ho j v hv)⟩
def Ins.cells (i : Ins) : Array Value := #[.int .i64 (i.op : Int), .int .i64 (i.rd : Int), .int .i64 (i.rs1 : Int), .int .i64 (i.rs2 : Int), .int .i64 i.imm]
def insZ : Ins := ⟨0, 0, 0, 0, 0⟩
def z5 : Array Value := #[.int .i64 0, .int .i64 0, .int .i64 0, .int .i64 0, .int .i64 0]
theorem z5_is : insZ.cells = z5 := rfl
def decV (x : Nat) : Value := match decR x with
  | some i => .tuple #[.agg i.cells, .int .i64 0]
  | none => .tuple #[.agg insZ.cells, .int .i64 10]
end Go.Pat
namespace Go.Proofs
open Go Go.RowKit Go.Pat
theorem keep_set (w : World) (b o : Nat) (v : Value) (k : Nat) (h : k ≠ b) : (w.setCell ⟨b, o, none⟩ v).heap[k]? = w.heap[k]? := Below.heap_setCell w ⟨b, o, none⟩ v k h
theorem bset {B : Nat} {a b : World} (h : Below B a b) (p : Addr) (hp : B ≤ p.block) (u : Value) : Below B a (b.setCell p u) := Below.setCell h hp u
theorem Tryz_sizeRow : (Tryz.prog.info? 152).map (·.size) = some 4 := by kernel_rfl
theorem Tryz_sizeIns : (Tryz.prog.info? 26).map (·.size) = some 5 := by kernel_rfl
theorem ins_load (b : Nat) (cs : Array Value) (W : World) (hb : W.heap[b]? = some (.cells cs 26 (0, 0))) (hn : cs.size = 5) : (loadVar 26 ⟨b, 0, none⟩).run Tryz.prog W = .ok (.agg cs) W := by
  have := run_loadVar_mid (P := Tryz.prog) W b 0 26 cs.toList _ (fun j v hv => by rw [Nat.zero_add, cell_of_row _ _ j cs _ (0, 0) hb]; simpa using hv) Tryz.underlying26 rfl (by rw [Array.length_toList, hn]; exact Tryz_sizeIns)
  simpa using this
theorem results_dec (fn : Func) (hf : fn.results = #[.cell 2 26, .tmp 3]) (tmps : Array Value) (b : Nat) (cs : Array Value) (W : World) (v3 : Value) (h2 : tmps[2]?.getD undef = .pointer (some ⟨b, 0, none⟩)) (h3 : tmps[3]?.getD undef = v3)
    (hb : W.heap[b]? = some (.cells cs 26 (0, 0))) (hn : cs.size = 5) : (results fn tmps).run Tryz.prog W = .ok (.tuple #[.agg cs, v3]) W := by
  have hl := ins_load b cs W hb hn
  unfold results
  rw [hf]
  simp [h2, h3, asAddr, hl]
theorem dec_ret (tmps : Array Value) (Wp : World) (b : Nat) (hb : Wp.heap[b]? = some (.cells z5 26 (0, 0))) (v0 v1 v2 v3 v4 : Value) (Post : Ending → World → Prop) (h2 : tmps[2]?.getD undef = .pointer (some ⟨b, 0, none⟩)) (h3 : tmps[3]?.getD undef = .int .i64 0)
    (h : Post (.returned (.tuple #[.agg #[v0, v1, v2, v3, v4], .int .i64 0])) (((((Wp.setCell ⟨b, 0, none⟩ v0).setCell ⟨b, 1, none⟩ v1).setCell ⟨b, 2, none⟩ v2).setCell ⟨b, 3, none⟩ v3).setCell ⟨b, 4, none⟩ v4)) :
    bodyPost Tryz.prog Tryz.f91 Post Exit.ret ⟨tmps, []⟩ (((((Wp.setCell ⟨b, 0, none⟩ v0).setCell ⟨b, 1, none⟩ v1).setCell ⟨b, 2, none⟩ v2).setCell ⟨b, 3, none⟩ v3).setCell ⟨b, 4, none⟩ v4) := by
  have hX := obj_set (obj_set (obj_set (obj_set (obj_set hb 0 v0) 1 v1) 2 v2) 3 v3) 4 v4
  have hc : ((((z5.setIfInBounds 0 v0).setIfInBounds 1 v1).setIfInBounds 2 v2).setIfInBounds 3 v3).setIfInBounds 4 v4 = #[v0, v1, v2, v3, v4] := by simp [z5]
  rw [hc] at hX
  exact bodyPost_ret (results_dec _ rfl tmps b _ _ (.int .i64 0) h2 h3 hX rfl) rfl h
theorem regv (y : Nat) (hy : y < 4294967296) : wrap64 (bits .and .u32 (y : Int) 31) = ((y % 32 : Nat) : Int) := by rw [and31n y hy, wrap64]; omega
theorem reg7 (x : Nat) (hx : x < 4294967296) : wrap64 (bits .and .u32 ((x : Int) / 128) 31) = ((x / 128 % 32 : Nat) : Int) := by rw [show (x : Int) / 128 = ((x / 128 : Nat) : Int) from div_nat x 128, regv _ (by omega)]
theorem reg15 (x : Nat) (hx : x < 4294967296) : wrap64 (bits .and .u32 ((x : Int) / 32768) 31) = ((x / 32768 % 32 : Nat) : Int) := by rw [show (x : Int) / 32768 = ((x / 32768 : Nat) : Int) from div_nat x 32768, regv _ (by omega)]
theorem reg20 (x : Nat) (hx : x < 4294967296) : wrap64 (bits .and .u32 ((x : Int) / 1048576) 31) = ((x / 1048576 % 32 : Nat) : Int) := by rw [show (x : Int) / 1048576 = ((x / 1048576 : Nat) : Int) from div_nat x 1048576, regv _ (by omega)]
theorem decGo_step (x k : Nat) (hk : k < 66) : decGo x (66 - k) k = if fitsR k x then some k else decGo x (66 - (k + 1)) (k + 1) := by
  rw [show 66 - k = (66 - (k + 1)) + 1 by omega]; rfl
theorem decR_hit {x k : Nat} (h : decGo x (66 - k) k = decGo x 65 1) (hk : k < 66) (hf : fitsR k x = true) : decR x = some (insOf k x) := by
  rw [decGo_step x k hk, if_pos hf] at h; unfold decR; rw [← h]; rfl
theorem decR_miss {x : Nat} (h : decGo x (66 - 66) 66 = decGo x 65 1) : decR x = none := by
  unfold decR; rw [← h]; rfl
set_option maxRecDepth 20000 in
set_option maxHeartbeats 8000000 in
theorem rvDecode_any (w : World) (hR : RvRows w) (x : Nat) (hx : x < 4294967296) :
    Calls Tryz.prog 91 #[.int .u32 x] w fun e w' => e = .returned (decV x) ∧ Below w.heap.size w w' := by
  obtain ⟨w1, hw1⟩ : ∃ w1 : World, w1 = w.alloc (.cells z5 26) := ⟨_, rfl⟩
  have hr1 : w1.heap[w.heap.size]? = some (.cells z5 26 (0, 0)) := by rw [hw1]; exact heap_alloc_new w _
  have hB1 : Below w.heap.size w w1 := by rw [hw1]; exact (Below.refl _ _).alloc (Nat.le_refl _) _
  have hs1 : w1.heap.size = w.heap.size + 1 := by rw [hw1, World.size_alloc]
  have hR1 := hR.below hB1
  unfold z5 at hw1
  have HW := Lib.hid hw1
  clear hw1
  go_enter Tryz.func91, Tryz.ntmps91
  go_upto_region 1 with fail
  rw [← HW.out]
  go_wp2_with fail
  go_loopw [4] (fun i wr => ∃ k : Nat, 1 ≤ k ∧ k ≤ 66 ∧ i = .int .i64 k ∧ decGo x (66 - k) k = decGo x 65 1 ∧ Below w1.heap.size w1 wr) (fun i _ => 66 - (intOf i).toNat)
  case atStart => exact ⟨1, by omega, by omega, rfl, rfl, Below.refl _ _⟩
  case round =>
    obtain ⟨k, hk1, hk2, rfl, hd, hB⟩ := hrel
    have hRr := hR1.below hB
    have hrr := (hB.block _ (by omega)).trans hr1
    by_cases hlt : k < 66
    · have t1 : decide ((k : Int) ≤ 65) = true := decide_eq_true (by omega)
      have hr := hRr.2 k hlt
      have hsk : fitsR k x = fitsB (rvRow k).1 (rvRow k).2.1 (rvRow k).2.2.1 (rvRow k).2.2.2 x := rfl
      have hik : ∀ i, i = insOf k x → i.op = k ∧ i.rd = (if hasD (rvRow k).1 then x / 128 % 32 else 0) ∧ i.rs1 = (if has1 (rvRow k).1 then x / 32768 % 32 else 0) ∧ i.rs2 = (if has2 (rvRow k).1 then x / 1048576 % 32 else 0) ∧ i.imm = immV (rvRow k).1 x := fun i h => by subst h; exact ⟨rfl, rfl, rfl, rfl, rfl⟩
      obtain ⟨f, hf⟩ : ∃ f, f = (rvRow k).1 := ⟨_, rfl⟩
      obtain ⟨oc, hoc⟩ : ∃ f, f = (rvRow k).2.1 := ⟨_, rfl⟩
      obtain ⟨f3, hf3⟩ : ∃ f, f = (rvRow k).2.2.1 := ⟨_, rfl⟩
      obtain ⟨f7, hf7⟩ : ∃ f, f = (rvRow k).2.2.2 := ⟨_, rfl⟩
      rw [← hf, ← hoc, ← hf3, ← hf7] at hr hsk
      rw [← hf] at hik
      clear hf hoc hf3 hf7
      have hki : (k : Int) < 66 := by omega
      go_upto_region 5 with (first
        | refine wpList_load_want (op := ⟨some 16, _, _, _, _, _⟩) rfl 152 (.tmp 15) rfl 0 (k * 4) rfl _ _ hr Tryz.underlying152 rfl Tryz_sizeRow ?_
        | refine wpList_store_rowTo (o := ⟨none, Op.store 152 (.tmp 5) (.tmp 16), _, _, _, _⟩) rfl 152 (.tmp 5) (.tmp 16) rfl rfl wr.heap.size #[.int .u8 (f : Int), .int .u32 (oc : Int), .int .u32 (f3 : Int), .int .u32 (f7 : Int)] rfl rfl 152 _ (heap_alloc_new wr _) Tryz_sizeRow rfl rfl ?_)
      obtain ⟨Wb, hWb⟩ : ∃ W : World, W = wr.alloc (.cells #[.int .u8 (f : Int), .int .u32 (oc : Int), .int .u32 (f3 : Int), .int .u32 (f7 : Int)] 152) := ⟨_, rfl⟩
      have hb0 : Wb.heap[wr.heap.size]? = some (.cells #[.int .u8 (f : Int), .int .u32 (oc : Int), .int .u32 (f3 : Int), .int .u32 (f7 : Int)] 152 (0, 0)) := by rw [hWb]; exact heap_alloc_new wr _
      have hBb : Below wr.heap.size wr Wb := by rw [hWb]; exact (Below.refl _ _).alloc (Nat.le_refl _) _
      have hsz : Wb.heap.size = wr.heap.size + 1 := by rw [hWb, World.size_alloc]
      rw [← hWb]
      clear hWb
      have hrow0 : Wb.rangeAt wr.heap.size 0 [.int .u8 (f : Int), .int .u32 (oc : Int), .int .u32 (f3 : Int), .int .u32 (f7 : Int)] := fun j v hv => by
        rw [Nat.zero_add]; exact (obj_cell hb0 j).trans (by simpa using hv)
      cases hfit : fitsB f oc f3 f7 x with
      | false =>
        have hcall := fun W => rvFits_any f oc f3 f7 x hx W
        rw [hfit] at hcall
        have HC := Lib.hid hcall
        have HD := Lib.hid (show decGo x (66 - (k + 1)) (k + 1) = decGo x 65 1 by
          rw [← hd, decGo_step x k hlt, hsk, hfit]; rfl)
        clear hcall hd hsk hik hfit
        go_wp2_with (refine wpList_load_want (op := ⟨some 17, _, _, _, _, _⟩) rfl 152 (.tmp 5) rfl wr.heap.size 0 rfl _ _ hrow0 Tryz.underlying152 rfl Tryz_sizeRow ?_)
        refine Calls.mono (HC.out _) ?_
        rintro e w3 ⟨rfl, hB3⟩
        go_wp2
        go_roundw
        case rel => exact ⟨k + 1, by omega, by omega, by go_num, HD.out, (hB.trans (hBb.mono hB.size)).trans (hB3.mono (Nat.le_trans hB.size hBb.size))⟩
        case measure => simp [intOf]; omega
      | true =>
        have hcall := fun W => rvFits_any f oc f3 f7 x hx W
        rw [hfit] at hcall
        have HC := Lib.hid hcall
        have hdec := decR_hit hd hlt (hsk.trans hfit)
        have hii := hik _ rfl
        have HD := Lib.hid (And.intro hdec hii)
        clear hcall hd hsk hik hfit hdec hii
        go_wp2_with (refine wpList_load_want (op := ⟨some 17, _, _, _, _, _⟩) rfl 152 (.tmp 5) rfl wr.heap.size 0 rfl _ _ hrow0 Tryz.underlying152 rfl Tryz_sizeRow ?_)
        refine Calls.mono (HC.out _) ?_
        rintro e Wc ⟨rfl, hB3⟩
        have hc0 : Wc.heap[wr.heap.size]? = some (.cells #[.int .u8 (f : Int), .int .u32 (oc : Int), .int .u32 (f3 : Int), .int .u32 (f7 : Int)] 152 (0, 0)) := (hB3.block _ (by omega)).trans hb0
        have c0 := obj_cell hc0 0
        have hrc : Wc.heap[w.heap.size]? = some (.cells z5 26 (0, 0)) := (hB3.block _ (by have := lt_of_block hrr; omega)).trans ((hBb.block _ (lt_of_block hrr)).trans hrr)
        have hBc : Below w1.heap.size w1 Wc := (hB.trans (hBb.mono hB.size)).trans (hB3.mono (Nat.le_trans hB.size hBb.size))
        go_wp2_with fail
        refine Calls.mono (rvImm_any f x hx _) ?_
        rintro e w' ⟨rfl, rfl⟩
        go_upto_region 7 with (refine wpList_store_rowTo (o := ⟨none, Op.store 26 (.tmp 6) (.tmp 26), _, _, _, _⟩) rfl 26 (.tmp 6) (.tmp 26) rfl rfl w'.heap.size #[.int .i64 (k : Int), .int .i64 0, .int .i64 0, .int .i64 0, .int .i64 (immV f x)] rfl rfl 26 _ (heap_alloc_new w' _) Tryz_sizeIns rfl rfl ?_)
        obtain ⟨Wd, hWd⟩ : ∃ W : World, W = w'.alloc (.cells #[.int .i64 (k : Int), .int .i64 0, .int .i64 0, .int .i64 0, .int .i64 (immV f x)] 26) := ⟨_, rfl⟩
        have hd0 : Wd.heap[w'.heap.size]? = some (.cells #[.int .i64 (k : Int), .int .i64 0, .int .i64 0, .int .i64 0, .int .i64 (immV f x)] 26 (0, 0)) := by rw [hWd]; exact heap_alloc_new w' _
        have hBd : Below w'.heap.size w' Wd := by rw [hWd]; exact (Below.refl _ _).alloc (Nat.le_refl _) _
        have c0d : Wd.cell? ⟨wr.heap.size, 0, none⟩ = some (.int .u8 (f : Int)) := (hBd.cell (p := ⟨wr.heap.size, 0, none⟩) (lt_of_block hc0)).trans c0
        have hrd := (hBd.block _ (lt_of_block hrc)).trans hrc
        have hne : w.heap.size ≠ w'.heap.size := Nat.ne_of_lt (lt_of_block hrc)
        rw [← hWd]
        clear hWd
        have hcall := fun W => rvHas_any f W
        have c1 : Wd.cell? ⟨w'.heap.size, 1, none⟩ = some (.int .i64 0) := (obj_cell hd0 1).trans rfl
        have c2 : Wd.cell? ⟨w'.heap.size, 2, none⟩ = some (.int .i64 0) := (obj_cell hd0 2).trans rfl
        have c3 : Wd.cell? ⟨w'.heap.size, 3, none⟩ = some (.int .i64 0) := (obj_cell hd0 3).trans rfl
        have f1 := obj_frozen hd0 1
        have f2 := obj_frozen hd0 2
        have f3' := obj_frozen hd0 3
        have q0 : Wd.cell? ⟨w.heap.size, 0, none⟩ = some (.int .i64 0) := (obj_cell hrd 0).trans rfl
        have p0 := obj_frozen hrd 0
        have q1 : Wd.cell? ⟨w.heap.size, 1, none⟩ = some (.int .i64 0) := (obj_cell hrd 1).trans rfl
        have p1 := obj_frozen hrd 1
        have q2 : Wd.cell? ⟨w.heap.size, 2, none⟩ = some (.int .i64 0) := (obj_cell hrd 2).trans rfl
        have p2 := obj_frozen hrd 2
        have q3 : Wd.cell? ⟨w.heap.size, 3, none⟩ = some (.int .i64 0) := (obj_cell hrd 3).trans rfl
        have p3 := obj_frozen hrd 3
        have q4 : Wd.cell? ⟨w.heap.size, 4, none⟩ = some (.int .i64 0) := (obj_cell hrd 4).trans rfl
        have p4 := obj_frozen hrd 4
        have c0' : Wd.cell? ⟨w'.heap.size, 0, none⟩ = some (.int .i64 (k : Int)) := (obj_cell hd0 0).trans rfl
        have c4 : Wd.cell? ⟨w'.heap.size, 4, none⟩ = some (.int .i64 (immV f x)) := (obj_cell hd0 4).trans rfl
        have hbase : Below w.heap.size w Wd := hB1.trans ((hBc.mono hB1.size).trans (hBd.mono (Nat.le_trans hB1.size hBc.size)))
        have hle : w.heap.size ≤ w'.heap.size := Nat.le_trans hB1.size hBc.size
        cases e1 : hasD f with
        | false =>
          cases e2 : has1 f with
          | false =>
            cases e3 : has2 f with
            | false =>
              rw [e1, e2, e3] at hcall HD
              have HC2 := Lib.hid hcall
              clear hcall e1 e2 e3
              go_wp2_with fail
              refine Calls.mono (HC2.out _) ?_
              rintro e w5 ⟨rfl, rfl⟩
              go_wp2
              refine dec_ret _ _ w.heap.size hrd _ _ _ _ _ _ rfl rfl ?_
              refine ⟨?_, (bset (bset (bset (bset (bset hbase _ (Nat.le_refl _) _) _ (Nat.le_refl _) _) _ (Nat.le_refl _) _) _ (Nat.le_refl _) _) _ (Nat.le_refl _) _)⟩
              obtain ⟨o1, o2, o3, o4, o5⟩ := HD.out.2
              unfold decV
              rw [HD.out.1]
              simp only [Ins.cells, o1, o2, o3, o4, o5, Bool.false_eq_true, if_false]
              try rfl
            | true =>
              rw [e1, e2, e3] at hcall HD
              have HC2 := Lib.hid hcall
              clear hcall e1 e2 e3
              go_wp2_with fail
              refine Calls.mono (HC2.out _) ?_
              rintro e w5 ⟨rfl, rfl⟩
              go_wp2
              refine dec_ret _ _ w.heap.size ((keep_set _ _ _ _ _ hne).trans hrd) _ _ _ _ _ _ rfl rfl ?_
              refine ⟨?_, (bset (bset (bset (bset (bset (bset hbase _ hle _) _ (Nat.le_refl _) _) _ (Nat.le_refl _) _) _ (Nat.le_refl _) _) _ (Nat.le_refl _) _) _ (Nat.le_refl _) _)⟩
              obtain ⟨o1, o2, o3, o4, o5⟩ := HD.out.2
              unfold decV
              rw [HD.out.1]
              simp only [Ins.cells, o1, o2, o3, o4, o5, Bool.false_eq_true, if_false, if_true, ← reg20 x hx]
              try rfl
          | true =>
            cases e3 : has2 f with
            | false =>
              rw [e1, e2, e3] at hcall HD
              have HC2 := Lib.hid hcall
              clear hcall e1 e2 e3
              go_wp2_with fail
              refine Calls.mono (HC2.out _) ?_
              rintro e w5 ⟨rfl, rfl⟩
              go_wp2
              refine dec_ret _ _ w.heap.size ((keep_set _ _ _ _ _ hne).trans hrd) _ _ _ _ _ _ rfl rfl ?_
              refine ⟨?_, (bset (bset (bset (bset (bset (bset hbase _ hle _) _ (Nat.le_refl _) _) _ (Nat.le_refl _) _) _ (Nat.le_refl _) _) _ (Nat.le_refl _) _) _ (Nat.le_refl _) _)⟩
              obtain ⟨o1, o2, o3, o4, o5⟩ := HD.out.2
              unfold decV
              rw [HD.out.1]
              simp only [Ins.cells, o1, o2, o3, o4, o5, Bool.false_eq_true, if_false, if_true, ← reg15 x hx]
              try rfl
            | true =>
              rw [e1, e2, e3] at hcall HD
              have HC2 := Lib.hid hcall
              clear hcall e1 e2 e3
              go_wp2_with fail
              refine Calls.mono (HC2.out _) ?_
              rintro e w5 ⟨rfl, rfl⟩
              go_wp2
              refine dec_ret _ _ w.heap.size ((keep_set _ _ _ _ _ hne).trans ((keep_set _ _ _ _ _ hne).trans hrd)) _ _ _ _ _ _ rfl rfl ?_
              refine ⟨?_, (bset (bset (bset (bset (bset (bset (bset hbase _ hle _) _ hle _) _ (Nat.le_refl _) _) _ (Nat.le_refl _) _) _ (Nat.le_refl _) _) _ (Nat.le_refl _) _) _ (Nat.le_refl _) _)⟩
              obtain ⟨o1, o2, o3, o4, o5⟩ := HD.out.2
              unfold decV
              rw [HD.out.1]
              simp only [Ins.cells, o1, o2, o3, o4, o5, Bool.false_eq_true, if_false, if_true, ← reg15 x hx, ← reg20 x hx]
              try rfl
        | true =>
          cases e2 : has1 f with
          | false =>
            cases e3 : has2 f with
            | false =>
              rw [e1, e2, e3] at hcall HD
              have HC2 := Lib.hid hcall
              clear hcall e1 e2 e3
              go_wp2_with fail
              refine Calls.mono (HC2.out _) ?_
              rintro e w5 ⟨rfl, rfl⟩
              go_wp2
              refine dec_ret _ _ w.heap.size ((keep_set _ _ _ _ _ hne).trans hrd) _ _ _ _ _ _ rfl rfl ?_
              refine ⟨?_, (bset (bset (bset (bset (bset (bset hbase _ hle _) _ (Nat.le_refl _) _) _ (Nat.le_refl _) _) _ (Nat.le_refl _) _) _ (Nat.le_refl _) _) _ (Nat.le_refl _) _)⟩
              obtain ⟨o1, o2, o3, o4, o5⟩ := HD.out.2
              unfold decV
              rw [HD.out.1]
              simp only [Ins.cells, o1, o2, o3, o4, o5, Bool.false_eq_true, if_false, if_true, ← reg7 x hx]
              try rfl
            | true =>
              rw [e1, e2, e3] at hcall HD
              have HC2 := Lib.hid hcall
              clear hcall e1 e2 e3
              go_wp2_with fail
              refine Calls.mono (HC2.out _) ?_
              rintro e w5 ⟨rfl, rfl⟩
              go_wp2
              refine dec_ret _ _ w.heap.size ((keep_set _ _ _ _ _ hne).trans ((keep_set _ _ _ _ _ hne).trans hrd)) _ _ _ _ _ _ rfl rfl ?_
              refine ⟨?_, (bset (bset (bset (bset (bset (bset (bset hbase _ hle _) _ hle _) _ (Nat.le_refl _) _) _ (Nat.le_refl _) _) _ (Nat.le_refl _) _) _ (Nat.le_refl _) _) _ (Nat.le_refl _) _)⟩
              obtain ⟨o1, o2, o3, o4, o5⟩ := HD.out.2
              unfold decV
              rw [HD.out.1]
              simp only [Ins.cells, o1, o2, o3, o4, o5, Bool.false_eq_true, if_false, if_true, ← reg7 x hx, ← reg20 x hx]
              try rfl
          | true =>
            cases e3 : has2 f with
            | false =>
              rw [e1, e2, e3] at hcall HD
              have HC2 := Lib.hid hcall
              clear hcall e1 e2 e3
              go_wp2_with fail
              refine Calls.mono (HC2.out _) ?_
              rintro e w5 ⟨rfl, rfl⟩
              go_wp2
              refine dec_ret _ _ w.heap.size ((keep_set _ _ _ _ _ hne).trans ((keep_set _ _ _ _ _ hne).trans hrd)) _ _ _ _ _ _ rfl rfl ?_
              refine ⟨?_, (bset (bset (bset (bset (bset (bset (bset hbase _ hle _) _ hle _) _ (Nat.le_refl _) _) _ (Nat.le_refl _) _) _ (Nat.le_refl _) _) _ (Nat.le_refl _) _) _ (Nat.le_refl _) _)⟩
              obtain ⟨o1, o2, o3, o4, o5⟩ := HD.out.2
              unfold decV
              rw [HD.out.1]
              simp only [Ins.cells, o1, o2, o3, o4, o5, Bool.false_eq_true, if_false, if_true, ← reg7 x hx, ← reg15 x hx]
              try rfl
            | true =>
              rw [e1, e2, e3] at hcall HD
              have HC2 := Lib.hid hcall
              clear hcall e1 e2 e3
              go_wp2_with fail
              refine Calls.mono (HC2.out _) ?_
              rintro e w5 ⟨rfl, rfl⟩
              go_wp2
              refine dec_ret _ _ w.heap.size ((keep_set _ _ _ _ _ hne).trans ((keep_set _ _ _ _ _ hne).trans ((keep_set _ _ _ _ _ hne).trans hrd))) _ _ _ _ _ _ rfl rfl ?_
              refine ⟨?_, (bset (bset (bset (bset (bset (bset (bset (bset hbase _ hle _) _ hle _) _ hle _) _ (Nat.le_refl _) _) _ (Nat.le_refl _) _) _ (Nat.le_refl _) _) _ (Nat.le_refl _) _) _ (Nat.le_refl _) _)⟩
              obtain ⟨o1, o2, o3, o4, o5⟩ := HD.out.2
              unfold decV
              rw [HD.out.1]
              simp only [Ins.cells, o1, o2, o3, o4, o5, if_true, ← reg7 x hx, ← reg15 x hx, ← reg20 x hx]
              try rfl
    · have t1 : decide ((k : Int) ≤ 65) = false := decide_eq_false (by omega)
      obtain rfl : k = 66 := by omega
      have HD := Lib.hid (decR_miss hd)
      have q0 : wr.cell? ⟨w.heap.size, 0, none⟩ = some (.int .i64 0) := (obj_cell hrr 0).trans rfl
      have p0 := obj_frozen hrr 0
      have q1 : wr.cell? ⟨w.heap.size, 1, none⟩ = some (.int .i64 0) := (obj_cell hrr 1).trans rfl
      have p1 := obj_frozen hrr 1
      have q2 : wr.cell? ⟨w.heap.size, 2, none⟩ = some (.int .i64 0) := (obj_cell hrr 2).trans rfl
      have p2 := obj_frozen hrr 2
      have q3 : wr.cell? ⟨w.heap.size, 3, none⟩ = some (.int .i64 0) := (obj_cell hrr 3).trans rfl
      have p3 := obj_frozen hrr 3
      have q4 : wr.cell? ⟨w.heap.size, 4, none⟩ = some (.int .i64 0) := (obj_cell hrr 4).trans rfl
      have p4 := obj_frozen hrr 4
      go_wp2
      have hX := obj_set (obj_set (obj_set (obj_set (obj_set hrr 0 (.int .i64 0)) 1 (.int .i64 0)) 2 (.int .i64 0)) 3 (.int .i64 0)) 4 (.int .i64 0)
      refine bodyPost_ret (v := .tuple #[.agg z5, .int .i64 10]) (results_dec _ rfl _ w.heap.size z5 _ (.int .i64 10) rfl rfl hX rfl) rfl ?_
      exact ⟨by unfold decV; rw [HD.out, ← z5_is], bset (bset (bset (bset (bset (hB1.trans (hB.mono hB1.size)) _ (Nat.le_refl _) _) _ (Nat.le_refl _) _) _ (Nat.le_refl _) _) _ (Nat.le_refl _) _) _ (Nat.le_refl _) _⟩
end Go.Proofs

/- Slices of instructions of the call's own; math/bits.TrailingZeros64. (tz_key and the two ways of TrailingZeros64 are turned from the kit's shelf.) -/
namespace Go.Pat
open Go Go.RowKit
/-- an instruction. -/
structure In where
  op : Int
  rd : Int
  a : Int
  b : Int
  n : Int
deriving DecidableEq
def In.cells (i : In) : List Value := [.int .i64 i.op, .int .i64 i.rd, .int .i64 i.a, .int .i64 i.b, .int .i64 i.n]
def icells : List In → List Value
  | [] => []
  | i :: r => i.cells ++ icells r
theorem icells_length (l : List In) : (icells l).length = l.length * 5 := by
  induction l with
  | nil => rfl
  | cons i r ih => simp [icells, In.cells, ih]; omega
theorem icells_append (a b : List In) : icells (a ++ b) = icells a ++ icells b := by
  induction a with
  | nil => rfl
  | cons i r ih => simp [icells, ih]
theorem icells_one (l : List In) : ∀ u ∈ icells l, u.oneCell' = true := by
  induction l with
  | nil => intro u hu; cases hu
  | cons i r ih =>
    intro u hu
    simp only [icells, In.cells, List.cons_append, List.nil_append, List.mem_cons] at hu
    rcases hu with rfl | rfl | rfl | rfl | rfl | h
    · rfl
    · rfl
    · rfl
    · rfl
    · rfl
    · exact ih u h
theorem icells_get (l : List In) (i : Nat) (hi : i < l.length) (j : Nat) (hj : j < 5) : (icells l)[i * 5 + j]? = (l[i].cells)[j]? := by
  induction l generalizing i with
  | nil => simp at hi
  | cons s r ih =>
    cases i with
    | zero => simp only [icells, Nat.zero_mul, Nat.zero_add, List.getElem_cons_zero]; rw [List.getElem?_append_left (by simp [In.cells]; omega)]
    | succ i =>
      rw [show (i + 1) * 5 + j = 5 + (i * 5 + j) by omega]
      simp only [icells, List.getElem_cons_succ]
      rw [List.getElem?_append_right (by simp [In.cells])]
      simp only [In.cells, List.length_cons, List.length_nil]
      rw [show 5 + (i * 5 + j) - (0 + 1 + 1 + 1 + 1 + 1) = i * 5 + j by omega]
      exact ih i (by simpa using hi)
/-- the table of math/bits. -/
def TzTab (w : World) : Prop := 1 < w.heap.size ∧ ∀ j, j < 64 → w.cell? ⟨1, j, none⟩ = some (.int .u8 ((Lib.deBruijn64tab.getD j 0 : Nat) : Int))
theorem TzTab.below {W W' : World} (h : TzTab W) (hb : Below W.heap.size W W') : TzTab W' :=
  ⟨Nat.lt_of_lt_of_le h.1 hb.size, fun j hj => (hb.cell (p := ⟨1, _, none⟩) h.1).trans (h.2 j hj)⟩
theorem tz_key (x a : Nat) (hx : x < 18446744073709551616) (hx0 : x ≠ 0) (hlow : x &&& (18446744073709551616 - x) = a) :
    IntKind.u64.wrap (bits BinOp.and IntKind.u64 (x : Int) (IntKind.u64.wrap (-(x : Int))) * 285870213051353865) / 288230376151711744 = ((a * 285870213051353865 % 18446744073709551616 / 288230376151711744 : Nat) : Int) := by
  have e1 : IntKind.u64.wrap (-(x : Int)) = ((18446744073709551616 - x : Nat) : Int) := by rw [IntKind.wrap_u64]; omega
  rw [e1, bits_and_u64_nat x _ hx (by omega), hlow, IntKind.wrap_u64]
  omega
end Go.Pat
namespace Go.Proofs
open Go Go.RowKit Go.Pat
set_option maxHeartbeats 1000000 in
theorem tz_core (x k idx : Nat) (w : World) (hx0 : ((x : Int) == 0) = false)
    (key : IntKind.u64.wrap (bits BinOp.and IntKind.u64 (x : Int) (IntKind.u64.wrap (-(x : Int))) * 285870213051353865) / 288230376151711744 = (idx : Int))
    (hi : idx < 64) (hk : k < 64) (hcell : w.cell? ⟨1, idx, none⟩ = some (.int .u8 k)) :
    Calls Tryz.prog 101 #[.int .u64 x] w fun e w' => e = .returned (.int .i64 k) ∧ w' = w := by
  go_enter Tryz.func101, Tryz.ntmps101
  go_wp2_with (simp only [key])
  go_ret
  exact ⟨rfl, rfl⟩
theorem tz_any (x : Nat) (hx : x < 18446744073709551616) (hx0 : x ≠ 0) (w : World) (hT : TzTab w) :
    Calls Tryz.prog 101 #[.int .u64 x] w fun e w' => e = .returned (.int .i64 ((Lib.ctz 64 x : Nat) : Int)) ∧ w' = w := by
  obtain ⟨hlow, hk⟩ := Lib.lowest_bit 64 x hx0 hx
  obtain ⟨hi, htab⟩ := Lib.deBruijn64_at _ hk
  have hcell := hT.2 _ hi
  rw [htab] at hcell
  exact tz_core x _ _ w (by simp; omega) (tz_key x _ hx hx0 hlow) hi hk hcell
theorem Tryz_elIns : ElT Tryz.prog 123 26 (.agg #[.int .i64 0, .int .i64 0, .int .i64 0, .int .i64 0, .int .i64 0]) 5 40 := ⟨Tryz.underlying123, by kernel_rfl, rfl, by decide⟩
def OwnI (w : World) (base : Nat) (v : Value) (l : List In) : Prop := w.ownsRow base 26 5 v l.length (icells l)
theorem OwnI.form {w : World} {base : Nat} {v : Value} {l : List In} (h : OwnI w base v l) : ∃ A c, v = .slice A l.length c ∧ Cs w.heap.size w A (icells l) := by
  rcases h.2 with ⟨rfl, h0⟩ | ⟨g, cap, cur, rfl, _, hh, hn, hm, hc, ht⟩
  · exact ⟨none, 0, by rw [h0], fun i hi => by rw [icells_length] at hi; omega⟩
  · exact ⟨_, cap, rfl, Cs.of_own (c := cap) h⟩
theorem OwnI.keep {w w' : World} {base : Nat} {v : Value} {l : List In} (h : OwnI w base v l) (hb : ∀ g, v.ownBlock = some g → w'.heap[g]? = w.heap[g]?) : OwnI w' base v l := by
  refine ⟨h.1, ?_⟩
  rcases h.2 with h0 | ⟨g, cap, cur, rfl, hg, hh, r⟩
  · exact .inl h0
  · exact .inr ⟨g, cap, cur, rfl, hg, (hb g rfl).trans hh, r⟩
theorem OwnI.below {w w' : World} {base : Nat} {v : Value} {l : List In} (h : OwnI w base v l) (hb : Below w.heap.size w w') : OwnI w' base v l := h.keep fun g hg => hb.block g (h.lt g hg).2
theorem OwnI.base {w : World} {base b2 : Nat} {v : Value} {l : List In} (h : OwnI w base v l) (hb : b2 ≤ base) : OwnI w b2 v l := by
  refine ⟨h.1, ?_⟩
  rcases h.2 with h0 | ⟨g, cap, cur, e, hg, r⟩
  · exact .inl h0
  · exact .inr ⟨g, cap, cur, e, Nat.le_trans hb hg, r⟩
theorem OwnI.nil (w : World) (base : Nat) : OwnI w base (.slice none 0 0) [] := ⟨rfl, .inl ⟨rfl, rfl⟩⟩
theorem OwnI.lit (w : World) (base : Nat) (hb : base ≤ w.heap.size) (i : In) : OwnI (w.alloc (.cells #[.int .i64 i.op, .int .i64 i.rd, .int .i64 i.a, .int .i64 i.b, .int .i64 i.n] 26)) base (.slice (some ⟨w.heap.size, 0, none⟩) 1 1) [i] :=
  World.ownsRow_lit w #[.int .i64 i.op, .int .i64 i.rd, .int .i64 i.a, .int .i64 i.b, .int .i64 i.n] 1 hb (by decide) rfl
theorem lit_ins (w : World) (i : In) : Cs (w.alloc (.cells #[.int .i64 i.op, .int .i64 i.rd, .int .i64 i.a, .int .i64 i.b, .int .i64 i.n] 26)).heap.size (w.alloc (.cells #[.int .i64 i.op, .int .i64 i.rd, .int .i64 i.a, .int .i64 i.b, .int .i64 i.n] 26)) (some ⟨w.heap.size, 0, none⟩) (icells [i]) := fun j hj => by
  refine ⟨w.heap.size, 0, rfl, by rw [World.size_alloc]; omega, ?_⟩
  have h5 : j < 5 := by simpa [icells, In.cells] using hj
  rw [Nat.zero_add, cell_of_row _ _ j _ _ (0, 0) (heap_alloc_new w _)]
  simp [icells, In.cells]
/-- append of one instruction to a slice of the call's own. -/
theorem wpList_appI {ops : Array Oper} {rest : List Oper} {o : Oper} {a : Act} {Q : Exit → Act → World → Prop} (w : World) (hgd : o.guard = none) (x y : Operand)
    (ho : o.op = .call { callee := .builtin .append, args := #[x, y], argTypes := #[123, 123] }) (base : Nat) (v : Value) (l : List In) (hx : a.eval x = v) (hown : OwnI w base v l)
    (B : Nat) (A : Option Addr) (m c : Nat) (news : List In) (hy : a.eval y = .slice A m c) (hm : news.length = m) (hr : Cs B w A (icells news)) (hlen : l.length + m ≤ 1000000000) (hbase : base ≤ w.heap.size)
    (h : ∀ v' w', OwnI w' base v' (l ++ news) → (∀ W, Below base W w → Below base W w') → (∀ g, g < w.heap.size → v.ownBlock ≠ some g → w'.heap[g]? = w.heap[g]?) → wpList Tryz.prog ops Q rest (a.put o.dst v') w') :
    wpList Tryz.prog ops Q (o :: rest) a w := by
  refine wpList_app w hgd x y 123 ho Tryz_elIns base v l.length (icells l) hx hown _ A m c (icells news) hy (by rw [icells_length, hm]) hr (icells_one news) (by simp only [maxLen]; omega) (by omega) hbase ?_
  intro v' w' h1 hg hnil hat
  refine h v' w' ?_ (fun W hW => own_below hown hW hg hbase) (fun g hg1 hg2 => hg.block g hg1 (fun e => hg2 e.symm))
  unfold OwnI
  rw [List.length_append, hm, icells_append]
  exact h1
end Go.Proofs
