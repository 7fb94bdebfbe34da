/- patinaref04.said: the same as elf.says. -/
import Derived.Test.YtlhenglopnipaaaGreatDoorFiles
import Derived.BigQuiet
import Derived.Test.YtlhenglopnipaaaGreatDoorBufs
import Derived.Test.YtlhenglopnipaaaGreatDoorElfA
import Derived.Deep.RegionHeld3
import Derived.Test.YtlhenglopnipaaaGreatDoorCpu
import Derived.Test.YtlhenglopnipaaaGreatDoorLoadA
import Derived.Deep.CutRange
namespace Go.Pat
open Go Go.RowKit
end Go.Pat
namespace Go.Proofs
open Go Go.RowKit Go.Pat

theorem Bs.cut {B : Nat} {w : World} {b o : Nat} {l : List UInt8} (h : Bs B w (some ⟨b, o, none⟩) l) (f c : Nat) : Bs B w (some ⟨b, o + f, none⟩) ((l.drop f).take c) := by
  have h1 := (Cs.drop h f).take c
  have h2 : (some (⟨b, o, none⟩ : Addr)).map (·.add f) = some ⟨b, o + f, none⟩ := by
    simp only [Option.map_some, Addr.add]
    split
    · rename_i h0; rw [h0, Nat.add_zero]
    · rfl
  rw [h2] at h1
  have h3 : bcells ((l.drop f).take c) = ((bcells l).drop f).take c := by simp [bcells, List.map_drop, List.map_take]
  show Cs _ _ _ (bcells _)
  rw [h3]
  exact h1
end Go.Proofs

/- patinaref04.Read: the same as elf.Read. -/
namespace Go.Proofs
open Go Go.RowKit Go.Pat

end Go.Proofs

/- patinalaw04.image, speaks. -/
namespace Go.Pat
open Go Go.RowKit
end Go.Pat
namespace Go.Proofs
open Go Go.RowKit Go.Pat

end Go.Proofs

/- patinalaw04.same: are two images the same? -/
namespace Go.Pat
open Go Go.RowKit
instance : DecidableEq Sgd := fun a b => by
  cases a; cases b
  simp only [Sgd.mk.injEq]
  infer_instance
end Go.Pat
namespace Go.Proofs
open Go Go.RowKit Go.Pat

end Go.Proofs

/- patinalaw04.ElfReads, ElfBack, ElfStrict: the walks. -/
namespace Go.Pat
open Go Go.RowKit
def readQ : ReadR → Nat × List Sgd × Nat × Nat
  | .bad a => (0, [], 40, a)
  | .good en ss => (en, ss, 0, 0)
end Go.Pat
namespace Go.Proofs
open Go Go.RowKit Go.Pat

theorem ReadP.open {w w' : World} {l : List UInt8} {e : Ending} (h : ReadP w l e w') : ∃ (en er at_ n c : Nat) (A : Option Addr) (gs : List Sg), readQ (readE l) = (en, gs.map Sg.d, er, at_) ∧
    e = .returned (.tuple #[.agg #[.int .u64 en, .slice A n c], .int .i64 er, .int .i64 at_]) ∧ SgsAt w'.heap.size w' A gs ∧ gs.length = n ∧ Below w.heap.size w w' := by
  rcases h with ⟨a, hR, rfl, hB⟩ | ⟨en, v, gs, hR, rfl, hown, h8, hB⟩
  · exact ⟨0, 40, a, 0, 0, none, [], by rw [hR]; rfl, rfl, ⟨fun i hi => absurd hi (by simp), by simp, by simp, by simp, by simp⟩, rfl, hB⟩
  · obtain ⟨A, c, rfl, hS⟩ := hown.sgs (by omega)
    exact ⟨en, 0, 0, gs.length, c, A, gs, by rw [hR]; rfl, rfl, hS, rfl, hB⟩

theorem eCheck_int (w : World) (A : Option Addr) (cap en n : Nat) (ss : List Sg) (hP : SgsAt w.heap.size w A ss) (hn : ss.length = n) (hen : en < 18446744073709551616) :
    Calls Tryz.prog 53 #[.agg #[.int .u64 en, .slice A n cap]] w fun e w' => e = .returned (.int .i64 (checkE en (ss.map Sg.d))) ∧ Below w.heap.size w w' := by
  subst hn
  exact eCheck_any w A cap en ss hP hen
end Go.Proofs

/- patinalaw04.ElfWrites: the walk. -/
namespace Go.Pat
open Go Go.RowKit
def wroteQ (en : Nat) (ss : List Sgd) : List UInt8 × Nat := if checkE en ss = 0 then (fileB en ss, 0) else ([], 40)
end Go.Pat
namespace Go.Proofs
open Go Go.RowKit Go.Pat

theorem WroteP.open {w w' : World} {en : Nat} {ss : List Sgd} {e : Ending} (h : WroteP w en ss e w') : ∃ (n c er : Nat) (A : Option Addr) (l : List UInt8), wroteQ en ss = (l, er) ∧
    e = .returned (.tuple #[.slice A n c, .int .i64 er]) ∧ Bs w'.heap.size w' A l ∧ l.length = n ∧ Below w.heap.size w w' := by
  rcases h with ⟨hc, g, n, rfl, hbuf, hg, hn, hm, hB⟩ | ⟨hc, rfl, hB⟩
  · exact ⟨n, n, 0, _, _, by unfold wroteQ; rw [if_pos hc], rfl, hbuf.bs hbuf.lt, hn.symm, hB⟩
  · exact ⟨0, 0, 40, none, [], by unfold wroteQ; rw [if_neg (by rw [hc]; decide)], rfl, fun i hi => absurd hi (by simp [bcells]), rfl, hB⟩

section
variable (w : World) (A : Option Addr) (cap en n : Nat) (ss : List Sg) (hP : SgsAt w.heap.size w A ss) (hn : ss.length = n) (hen : en < 18446744073709551616)
include hP hn hen
end

end Go.Proofs

/- elf.Where and patinaref04.Where. -/
namespace Go.Pat
open Go Go.RowKit
end Go.Pat
namespace Go.Proofs
open Go Go.RowKit Go.Pat

end Go.Proofs

/- elf.Load and patinaref04.Load: what they have in common. -/
namespace Go.Pat
open Go Go.RowKit
def cpuA (en : Nat) : Array Value := #[.int .u64 (en : Int), .int .u64 0, .int .u64 0, .int .u64 0, .int .u64 0, .int .u64 0, .int .u64 0, .int .u64 0, .int .u64 0, .int .u64 0, .int .u64 0, .int .u64 0, .int .u64 0, .int .u64 0, .int .u64 0, .int .u64 0, .int .u64 0, .int .u64 0, .int .u64 0, .int .u64 0, .int .u64 0, .int .u64 0, .int .u64 0, .int .u64 0, .int .u64 0, .int .u64 0, .int .u64 0, .int .u64 0, .int .u64 0, .int .u64 0, .int .u64 0, .int .u64 0, .int .u64 0, .int .i64 0, .bool false, .int .i64 0, .int .i64 0, .slice none 0 0, .int .i64 0]
/-- what both Load tell. -/
def LoadE (w : World) (en : Nat) (ss : List Sgd) (e : Ending) (w' : World) : Prop :=
  (checkE en ss = 0 ∧ ∃ A c ps, e = .returned (.tuple #[cpuV en, .slice A ps.length c, .int .i64 0]) ∧ Go.Proofs.OwnPs w' w.heap.size (.slice A ps.length c) ps ∧ ps.map PgIn.pg = loadT ss ss.length ∧ Below w.heap.size w w') ∨
  (checkE en ss = 40 ∧ e = .returned (.tuple #[cpuV 0, .slice none 0 0, .int .i64 40]) ∧ Below w.heap.size w w')
end Go.Pat
namespace Go.Proofs
open Go Go.RowKit Go.Pat

theorem Bs.takeL {B : Nat} {w : World} {A : Option Addr} {l : List UInt8} (h : Bs B w A l) (c : Nat) : Bs B w A (l.take c) := by
  have h1 := Cs.take h c
  have h3 : bcells (l.take c) = (bcells l).take c := by simp [bcells, List.map_take]
  show Cs _ _ _ (bcells _)
  rw [h3]
  exact h1
theorem run_copyB2 (w : World) (ty : TypeId) (g off dLen dCap : Nat) (l : List UInt8) (hB : Buf w g l) (A : Option Addr) (sLen sCap B : Nat) (xs : List UInt8) (hr : Bs B w A xs) (hx : xs.length = sLen) (hfit : off + dLen ≤ l.length) (hpos : 0 < sLen) (_hd : 0 < dLen) :
    ∃ w', (Builtin.copy_ #[35, 35] ty #[.slice (some ⟨g, off, none⟩) dLen dCap, .slice A sLen sCap]).run Tryz.prog w = .ok (goInt ((min dLen sLen : Nat) : Int)) w' ∧ Buf w' g (splice l off (xs.take dLen)) ∧ KeptBut (fun b => b = g) w w' := by
  obtain ⟨b, o, rfl, _⟩ := hr.form (by intro h; have := congrArg List.length h; rw [bcells_length] at this; simp at this; rw [this] at hx; simp at hx; omega)
  have hxt : (xs.take dLen).length = min dLen sLen := by rw [List.length_take, hx]
  have hrun := run_copy_row (P := Tryz.prog) w 35 35 ty 5 g off dLen dCap ⟨b, o, none⟩ sLen sCap (bcells l).toArray 5 (bcells (xs.take dLen)) Tryz.underlying35 Tryz_sizeU8 hB (by rw [bcells_length, hxt, Nat.min_comm]) ((Bs.takeL hr dLen).news rfl) (by rw [bcells_length, List.size_toArray, bcells_length, hxt]; omega) (bcells_one _)
  rw [bcells_length, hxt] at hrun
  refine ⟨_, hrun, ?_, rfl, rfl, rfl, by simp [World.setRow], fun k _ hk => setRow_other w g k _ hk⟩
  have hs := setRow_heap w g (bcells l).toArray (((bcells l).toArray.toList.take off ++ bcells (xs.take dLen) ++ (bcells l).toArray.toList.drop (off + min dLen sLen)).toArray) _ _ hB
  unfold Buf
  rw [hs, ← bcells_splice]
  simp only [splice, bcells_length, hxt, List.append_assoc]
theorem step_copyB2 {ops : Array Oper} {o : Oper} {a : Act} {w : World} {K : Act → World → Prop} {Q : Exit → Act → World → Prop} {E : Prop} (hgd : o.guard = none) (d s : Operand)
    (ho : o.op = .call { callee := .builtin .copy, args := #[d, s], argTypes := #[35, 35] }) (g off dLen dCap : Nat) (hd : a.eval d = .slice (some ⟨g, off, none⟩) dLen dCap) (l : List UInt8) (hB : Buf w g l)
    (A : Option Addr) (sLen sCap B : Nat) (hs : a.eval s = .slice A sLen sCap) (xs : List UInt8) (hr : Bs B w A xs) (hx : xs.length = sLen) (hfit : off + dLen ≤ l.length) (hpos : 0 < sLen) (hdp : 0 < dLen)
    (h : ∀ w', Buf w' g (splice l off (xs.take dLen)) → KeptBut (fun b => b = g) w w' → K (a.put o.dst (goInt ((min dLen sLen : Nat) : Int))) w') :
    if Region.wanted o (yielded ops a.tmps) = true then Oper.wp Tryz.prog o a w K Q else E := by
  have hw : Region.wanted o (yielded ops a.tmps) = true := by simp [Region.wanted, hgd]
  rw [if_pos hw]
  obtain ⟨w', hrun, h1, h2⟩ := run_copyB2 w o.type g off dLen dCap l hB A sLen sCap B xs hr hx hfit hpos hdp
  unfold Oper.wp
  simp [execOp, ho, resolve, invoke, builtin, hd, hs, hrun, Result.andThen]
  exact h w' h1 h2
theorem OwnB.of_buf {w : World} {g base : Nat} {l : List UInt8} (h : Buf w g l) (hg : base ≤ g) (hl : l.length ≤ 281474976710656) : OwnB w base (.slice (some ⟨g, 0, none⟩) l.length l.length) l := by
  refine ⟨by rw [bcells_length, Nat.mul_one], .inr ⟨g, l.length, _, rfl, hg, h, Nat.le_refl _, by simp only [maxLen]; omega, by simp [bcells_length], ?_⟩⟩
  rw [Nat.mul_one]
  exact List.take_of_length_le (by simp [bcells_length])
theorem Tryz_sizeCpuL : (Tryz.prog.info? 37).map (·.size) = some 39 := by kernel_rfl
theorem cpu_loadL (b : Nat) (cs : Array Value) (W : World) (hb : W.heap[b]? = some (.cells cs 37 (0, 0))) (hn : cs.size = 39) : (loadVar 37 ⟨b, 0, none⟩).run Tryz.prog W = .ok (.agg cs) W := by
  have := run_loadVar_mid (P := Tryz.prog) W b 0 37 cs.toList _ (fun j v hv => by rw [Nat.zero_add, cell_of_row _ _ j cs _ (0, 0) hb]; simpa using hv) Tryz.underlying37 rfl (by rw [Array.length_toList, hn]; exact Tryz_sizeCpuL)
  simpa using this
theorem results_cpu (fn : Func) (hf : fn.results = #[.cell 2 37, .tmp 3, .tmp 4]) (tmps : Array Value) (b : Nat) (cs : Array Value) (W : World) (v3 v4 : Value) (h2 : tmps[2]?.getD undef = .pointer (some ⟨b, 0, none⟩)) (h3 : tmps[3]?.getD undef = v3) (h4 : tmps[4]?.getD undef = v4)
    (hb : W.heap[b]? = some (.cells cs 37 (0, 0))) (hn : cs.size = 39) : (results fn tmps).run Tryz.prog W = .ok (.tuple #[.agg cs, v3, v4]) W := by
  have hl := cpu_loadL b cs W hb hn
  unfold results
  rw [hf]
  simp [h2, h3, h4, asAddr, hl]
theorem pagT_mono {ss : List Sgd} {k n : Nat} (h : k ≤ n) : pagT ss k ≤ pagT ss n := by
  induction n with
  | zero => obtain rfl : k = 0 := by omega
            exact Nat.le_refl _
  | succ n ih =>
    by_cases e : k = n + 1
    · rw [e]; exact Nat.le_refl _
    · refine Nat.le_trans (ih (by omega)) ?_
      rw [pagT]
      exact Nat.le_add_right _ _
theorem OwnP.base {w : World} {base b2 : Nat} {v : Value} {ss : List PgIn} (h : OwnP w base v ss) (hb : b2 ≤ base) : OwnP w b2 v ss := by
  refine ⟨h.1, ?_⟩
  rcases h.2 with h0 | ⟨g, cap, cur, hv, hg, r⟩
  · exact .inl h0
  · exact .inr ⟨g, cap, cur, hv, by omega, r⟩
theorem OwnPs.base {w : World} {base b2 : Nat} {v : Value} {ss : List PgIn} (h : OwnPs w base v ss) (hb : b2 ≤ base) : OwnPs w b2 v ss := ⟨h.row.base hb, fun s hs => (h.bytes s hs).base hb, h.small⟩
theorem OwnPs.row_set {w : World} {base : Nat} {v : Value} {ss : List PgIn} (h : OwnPs w base v ss) {r : Nat} {cs cs' : Array Value} (hr : w.heap[r]? = some (.cells cs 37 (0, 0))) : OwnPs (w.setRow r cs') base v ss :=
  h.put hr (by decide) (by decide) ⟨rfl, rfl, rfl, by simp [World.setRow], fun k _ hk => setRow_other w r k cs' hk⟩
theorem cpu_one (en : Nat) : (cpuA en).all (·.oneCell') = true := by simp [cpuA, Value.oneCell']
theorem below_setRow {B : Nat} {a b : World} (h : Below B a b) {r : Nat} (hr : B ≤ r) (cs : Array Value) : Below B a (b.setRow r cs) :=
  ⟨h.os, h.tape, h.output, by have := h.size; simpa [World.setRow] using this, fun k hk => (setRow_other b r k cs (by omega)).trans (h.block k hk)⟩
theorem lit_page (W : World) (base av g : Nat) (perm : Int) (d : List UInt8) (hd : d.length = 4096) : (W.alloc (.cells #[.int .u64 ((base : Int) + (av : Int)), .int .i64 perm, .slice (some ⟨g, 0, none⟩) 4096 4096] 112)).heap[W.heap.size]? = some (.cells (PgIn.cells ⟨base + av, perm, some ⟨g, 0, none⟩, 4096, d⟩).toArray 112 (0, 0)) := by
  rw [heap_alloc_new]
  simp [PgIn.cells, hd]
theorem page_own {w : World} {g base : Nat} {d : List UInt8} (hb : Buf w g d) (hg : base ≤ g) (hd : d.length = 4096) : OwnB w base (.slice (some ⟨g, 0, none⟩) d.length 4096) d := by
  have := OwnB.of_buf hb hg (by omega)
  rw [hd] at this ⊢
  exact this
theorem page_data (d : List UInt8) (i a : Nat) (ha : a = 4096 * i) : splice zeros 0 ((d.drop a).take 4096) = pageB d i := by subst ha; rfl
theorem page_zero (d : List UInt8) (i a : Nat) (ha : a = 4096 * i) (h : d.length ≤ a) : zeros = pageB d i := by
  subst ha
  unfold pageB zeros
  rw [List.drop_eq_nil_of_le h, List.take_nil, splice_nil]
theorem Bs.drop_at {B : Nat} {w : World} {b o : Nat} {l : List UInt8} (h : Bs B w (some ⟨b, o, none⟩) l) (f : Nat) : Bs B w (some ⟨b, o + f, none⟩) (l.drop f) := by
  have := Bs.cut h f l.length
  rwa [List.take_of_length_le (by rw [List.length_drop]; omega)] at this
end Go.Proofs

/- elf.Load. -/
namespace Go.Proofs
open Go Go.RowKit Go.Pat

theorem zeroPage_eq : zeroPage = (bcells zeros).toArray := by
  unfold zeroPage zeros
  exact made_bytes 4096
theorem two_below (w : World) (a b : Obj) : Below w.heap.size w ((w.alloc a).alloc b).drew := (((Below.refl _ _).alloc (Nat.le_refl _) _).alloc (by rw [World.size_alloc]; exact Nat.le_succ _) _).drew
theorem buf_first (w : World) (b : Obj) (Z : Array Value) (hZ : Z = zeroPage) : Buf ((w.alloc (.cells Z 5)).alloc b).drew w.heap.size zeros := by
  unfold Buf
  rw [← zeroPage_eq, ← hZ]
  exact obj_alloc (heap_alloc_new w _)
theorem page_first (w : World) (a : Obj) (cs : Array Value) : ((w.alloc a).alloc (.cells cs 112)).drew.heap[w.heap.size + 1]? = some (.cells cs 112 (0, 0)) := by
  have := heap_alloc_new (w.alloc a) (.cells cs 112)
  rw [World.size_alloc] at this
  exact this
theorem buf_second (w : World) (a : Obj) (Z : Array Value) (hZ : Z = zeroPage) : Buf ((w.alloc a).alloc (.cells Z 5)).drew (w.heap.size + 1) zeros := by
  unfold Buf
  rw [← zeroPage_eq, ← hZ]
  have := heap_alloc_new (w.alloc a) (.cells Z 5)
  rw [World.size_alloc] at this
  exact this
theorem page_second (w : World) (b : Obj) (cs : Array Value) : ((w.alloc (.cells cs 112)).alloc b).drew.heap[w.heap.size]? = some (.cells cs 112 (0, 0)) := obj_alloc (heap_alloc_new w _)
set_option maxRecDepth 20000 in
set_option maxHeartbeats 16000000 in
theorem eLoad_any (w : World) (A : Option Addr) (cap en n : Nat) (ss : List Sg) (hP : SgsAt w.heap.size w A ss) (hn : ss.length = n) (hen : en < 18446744073709551616) :
    Calls Tryz.prog 24 #[.agg #[.int .u64 en, .slice A n cap]] w (LoadE w en (ss.map Sg.d)) := by
  have HN := Lib.hid hn
  clear hn
  have hbk : ∀ w', Below w.heap.size w w' → SgsAt w'.heap.size w' A ss := fun w' h => (hP.below h).mono h.size
  have HK := Lib.hid hbk
  clear hbk
  obtain ⟨W0, hW0⟩ : ∃ W : World, W = (w.alloc (.cells #[.int .u64 en, .slice A n cap] 59)).alloc (.cells #[.int .u64 0, .int .u64 0, .int .u64 0, .int .u64 0, .int .u64 0, .int .u64 0, .int .u64 0, .int .u64 0, .int .u64 0, .int .u64 0, .int .u64 0, .int .u64 0, .int .u64 0, .int .u64 0, .int .u64 0, .int .u64 0, .int .u64 0, .int .u64 0, .int .u64 0, .int .u64 0, .int .u64 0, .int .u64 0, .int .u64 0, .int .u64 0, .int .u64 0, .int .u64 0, .int .u64 0, .int .u64 0, .int .u64 0, .int .u64 0, .int .u64 0, .int .u64 0, .int .u64 0, .int .i64 0, .bool false, .int .i64 0, .int .i64 0, .slice none 0 0, .int .i64 0] 37) := ⟨_, rfl⟩
  have hb0 : Below w.heap.size w W0 := by rw [hW0]; exact ((Below.refl _ _).alloc (Nat.le_refl _) _).alloc (by rw [World.size_alloc]; omega) _
  have hi0 : W0.heap[w.heap.size]? = some (.cells #[.int .u64 en, .slice A n cap] 59 (0, 0)) := by rw [hW0]; exact obj_alloc (heap_alloc_new w _)
  have hc0 : W0.heap[w.heap.size + 1]? = some (.cells (cpuA 0) 37 (0, 0)) := by
    have := heap_alloc_new (w.alloc (.cells #[.int .u64 en, .slice A n cap] 59)) (.cells #[.int .u64 0, .int .u64 0, .int .u64 0, .int .u64 0, .int .u64 0, .int .u64 0, .int .u64 0, .int .u64 0, .int .u64 0, .int .u64 0, .int .u64 0, .int .u64 0, .int .u64 0, .int .u64 0, .int .u64 0, .int .u64 0, .int .u64 0, .int .u64 0, .int .u64 0, .int .u64 0, .int .u64 0, .int .u64 0, .int .u64 0, .int .u64 0, .int .u64 0, .int .u64 0, .int .u64 0, .int .u64 0, .int .u64 0, .int .u64 0, .int .u64 0, .int .u64 0, .int .u64 0, .int .i64 0, .bool false, .int .i64 0, .int .i64 0, .slice none 0 0, .int .i64 0] 37)
    rw [World.size_alloc] at this
    rw [hW0]; exact this
  have j0 := obj_cell hi0 0
  have j1 := obj_cell hi0 1
  have HW := Lib.hid hW0
  clear hW0
  go_enter Tryz.func24, Tryz.ntmps24
  go_upto_region 1 with fail
  rw [← HW.out]
  go_wp2_with fail
  refine Calls.mono (eCheck_int _ A cap en n ss (HK.out _ hb0) HN.out hen) ?_
  rintro e w1 ⟨rfl, hB1⟩
  have hi1 := (hB1.block _ (lt_of_block hi0)).trans hi0
  have hc1 := (hB1.block _ (lt_of_block hc0)).trans hc0
  have hBa := hb0.trans (hB1.mono hb0.size)
  have hs1 : w.heap.size + 1 < w1.heap.size := lt_of_block hc1
  clear j0 j1 hi0 hc0
  by_cases hc : checkE en (ss.map Sg.d) = 0
  · have hd : (checkE en (ss.map Sg.d) != 0) = false := by rw [hc]; rfl
    have hK := check_ok hc
    have hlp := load_pages hc
    have HC := Lib.hid (And.intro hc (And.intro hK hlp))
    have hn8 : n ≤ 8 := by have := hK.few; rw [List.length_map, HN.out] at this; exact this
    clear hc hK hlp
    have j1 := obj_cell hi1 1
    go_wp2_with fail
    go_loopw [6, 20] (fun out i wr => ∃ (j c : Nat) (Ao : Option Addr) (ps : List PgIn), j ≤ n ∧ i = .int .i64 j ∧ out = .slice Ao ps.length c ∧ OwnPs wr w1.heap.size (.slice Ao ps.length c) ps ∧ ps.map PgIn.pg = loadT (ss.map Sg.d) j ∧ Below w1.heap.size w1 wr) (fun _ i _ => n - (intOf i).toNat)
    case atStart => exact ⟨0, 0, none, [], by omega, rfl, rfl, .nil _ _, rfl, Below.refl _ _⟩
    case round =>
      obtain ⟨j, co, Ao, ps, hj, rfl, rfl, hown, hps, hB⟩ := hrel
      have hir := (hB.block _ (lt_of_block hi1)).trans hi1
      have hcr := (hB.block _ (lt_of_block hc1)).trans hc1
      have jr := obj_cell hir 1
      have hBr := hBa.trans (hB.mono hBa.size)
      have hPj := HK.out _ hBr
      have HPS := Lib.hid hps
      clear hps
      by_cases hlt : j < n
      · have hd3 : decide ((j : Int) < (n : Int)) = true := decide_eq_true (by omega)
        have hji : (j : Int) < (n : Int) := by omega
        have hj1 : j < ss.length := by rw [HN.out]; exact hlt
        obtain ⟨b, o, rfl, hb, p0, p1, p2, p3⟩ := hPj.cells j hj1
        obtain ⟨x, hx⟩ : ∃ x, x = ss[j] := ⟨_, rfl⟩
        rw [← hx] at p0 p1 p2 p3
        have hxm : x ∈ ss := by rw [hx]; exact List.getElem_mem _
        have hxs := hP.small x hxm
        have hxc := hP.caps x hxm
        have hxd : (ss.map Sg.d)[j]? = some x.d := by rw [List.getElem?_map, List.getElem?_eq_getElem hj1, hx]; rfl
        have hF := okT_at HC.out.2.1.ok j (by rw [List.length_map]; exact hj1) (by rw [List.length_map]; exact hj1)
        have hFd : (ss.map Sg.d)[j]'(by rw [List.length_map]; exact hj1) = x.d := by rw [hx, List.getElem_map]
        rw [hFd] at hF
        have hsz : x.size ≤ 16777216 := hF.most
        have htop : x.addr + x.size ≤ 281474976710656 := hF.top
        have hfit : x.data.length ≤ x.size := hF.fits
        have hcnt : (loadT (ss.map Sg.d) j).length + segN x.d ≤ 4096 := by
          have h1 : (loadT (ss.map Sg.d) (j + 1)).length = (loadT (ss.map Sg.d) j).length + segN x.d := by rw [loadT_succ hxd, List.length_append]; simp [segPs]
          have h2 := pagT_mono (ss := ss.map Sg.d) (show j + 1 ≤ (ss.map Sg.d).length by rw [List.length_map]; exact hj1)
          rw [← loadT_length, ← loadT_length] at h2
          have h3 := HC.out.2.2.2.2
          omega
        have HX := Lib.hid (And.intro hxd hcnt)
        have HXM := Lib.hid hxm
        clear hx hxm hxd hF hFd hcnt
        obtain ⟨sb, hsb⟩ : ∃ sb, sb = wr.heap.size := ⟨_, rfl⟩
        have hseg := heap_alloc_new wr (.cells #[.int .u64 (x.addr : Int), .int .i64 x.perm, .slice x.A x.data.length x.cap, .int .u64 (x.size : Int)] 66)
        have hBs : Below w1.heap.size w1 (wr.alloc (.cells #[.int .u64 (x.addr : Int), .int .i64 x.perm, .slice x.A x.data.length x.cap, .int .u64 (x.size : Int)] 66)) := hB.alloc hB.size _
        have hownS := hown.below ((Below.refl _ _).alloc (Nat.le_refl _) (.cells #[.int .u64 (x.addr : Int), .int .i64 x.perm, .slice x.A x.data.length x.cap, .int .u64 (x.size : Int)] 66))
        have hsbw : w1.heap.size ≤ sb := by rw [hsb]; exact hB.size
        rw [← hsb] at hseg
        have HSB := Lib.hid hsb
        clear hsb
        go_wp2_with fail
        rw [← HSB.out]
        clear HSB jr hir hcr hown hB hBr p0 p1 p2 p3 hPj
        go_loopw [6, 9] (fun out a wr => ∃ (i av c : Nat) (Ao : Option Addr) (ps : List PgIn), i ≤ segN x.d ∧ av = 4096 * i ∧ a = .int .u64 (av : Nat) ∧ out = .slice Ao ps.length c ∧ OwnPs wr w1.heap.size (.slice Ao ps.length c) ps ∧
          ps.map PgIn.pg = loadT (ss.map Sg.d) j ++ segPs x.d i ∧ wr.heap[sb]? = some (.cells #[.int .u64 (x.addr : Int), .int .i64 x.perm, .slice x.A x.data.length x.cap, .int .u64 (x.size : Int)] 66 (0, 0)) ∧ Below w1.heap.size w1 wr) (fun _ a _ => segN x.d - (intOf a).toNat / 4096)
        case atStart => exact ⟨0, 0, co, Ao, ps, by omega, rfl, rfl, rfl, hownS, by rw [HPS.out]; simp [segPs], hseg, hBs⟩
        case round =>
          clear hownS hseg hBs
          obtain ⟨i, av, co2, Ao2, qs, hi, hav, rfl, rfl, hown, hqs, hseg, hB⟩ := hrel
          have hBr := hBa.trans (hB.mono hBa.size)
          have s0 := obj_cell hseg 0
          have s1 := obj_cell hseg 1
          have s2 := obj_cell hseg 2
          have s3 := obj_cell hseg 3
          have hsgn : segN x.d = (x.size + 4095) / 4096 := rfl
          have hql : qs.length = (loadT (ss.map Sg.d) j).length + i := by
            have := congrArg List.length hqs
            rw [List.length_map, List.length_append] at this
            rw [this]; simp [segPs]
          have hqn : qs.length + 1 ≤ 100000 ∨ ¬ i < segN x.d := by
            have := HX.out.2
            omega
          by_cases hin : i < segN x.d
          · have hlt2 : av < x.size := by rw [hsgn] at hin; omega
            have hd4 : decide (av < x.size) = true := decide_eq_true hlt2
            have hqn2 : qs.length + 1 ≤ 100000 := by rcases hqn with h | h; exact h; exact absurd hin h
            have HQ := Lib.hid (And.intro hqs (And.intro hav (And.intro hsgn hql)))
            have ew : IntKind.u64.wrap ((x.addr : Int) + (av : Int)) = (x.addr : Int) + (av : Int) := by rw [IntKind.wrap_u64]; omega
            have HP := Lib.hid hqn2
            clear hqs hav hqn hsgn hql
            obtain ⟨Z, hZ⟩ : ∃ Z : Array Value, Z = zeroPage := ⟨_, rfl⟩
            have hmk : ∀ w, (Instr.makeSlice 35 (.int .i64 4096) (.int .i64 4096)).run Tryz.prog w = .ok (.slice (some ⟨w.heap.size, 0, none⟩) 4096 4096) (w.alloc (.cells Z 5)) := by rw [hZ]; exact run_makePage
            have HZZ := Lib.hid hZ
            clear hZ
            have sA0 : ∀ o, (wr.alloc o).cell? ⟨sb, 0, none⟩ = some (.int .u64 (x.addr : Int)) := fun o => (World.cell?_alloc_lt wr o ⟨sb, 0, none⟩ (lt_of_block hseg)).trans s0
            have sA1 : ∀ o, (wr.alloc o).cell? ⟨sb, 1, none⟩ = some (.int .i64 x.perm) := fun o => (World.cell?_alloc_lt wr o ⟨sb, 1, none⟩ (lt_of_block hseg)).trans s1
            have sB0 : ∀ o o2, ((wr.alloc o).alloc o2).cell? ⟨sb, 0, none⟩ = some (.int .u64 (x.addr : Int)) := fun o o2 => (World.cell?_alloc_lt (wr.alloc o) o2 ⟨sb, 0, none⟩ (by rw [World.size_alloc]; exact Nat.lt_succ_of_lt (lt_of_block hseg))).trans (sA0 o)
            have sB1 : ∀ o o2, ((wr.alloc o).alloc o2).cell? ⟨sb, 1, none⟩ = some (.int .i64 x.perm) := fun o o2 => (World.cell?_alloc_lt (wr.alloc o) o2 ⟨sb, 1, none⟩ (by rw [World.size_alloc]; exact Nat.lt_succ_of_lt (lt_of_block hseg))).trans (sA1 o)
            go_upto_region 11 with fail
            go_cut [10] from 24 to 54 (fun s10 wx => ∃ g pb : Nat, s10 = .pointer (some ⟨pb, 0, none⟩) ∧ Buf wx g zeros ∧ wx.heap[pb]? = some (.cells #[.int .u64 ((x.addr : Int) + (av : Int)), .int .i64 x.perm, .slice (some ⟨g, 0, none⟩) 4096 4096] 112 (0, 0)) ∧ Below wr.heap.size wr wx ∧ wr.heap.size ≤ g ∧ wr.heap.size ≤ pb ∧ g ≠ pb)
            case first =>
              go_region
              all_goals
                go_wp2_with fail
                go_meet
                first
                  | exact ⟨wr.heap.size, wr.heap.size + 1, rfl, buf_first wr _ Z HZZ.out, page_first wr _ _, two_below wr _ _, Nat.le_refl _, Nat.le_succ _, by omega⟩
                  | exact ⟨wr.heap.size + 1, wr.heap.size, rfl, buf_second wr _ Z HZZ.out, page_second wr _ _, two_below wr _ _, Nat.le_succ _, Nat.le_refl _, by omega⟩
            case rest =>
              obtain ⟨g, pb, rfl, hbuf4, hpg4, hB4, hgl, hpl, hgp⟩ := hcut
              clear hmk sA0 sA1 sB0 sB1 s0 s1 s2 s3
              have hgw : w1.heap.size ≤ g := Nat.le_trans hB.size hgl
              have hsbx : sb < wr.heap.size := lt_of_block hseg
              have hseg4 := (hB4.block _ hsbx).trans hseg
              have hbs4 := (hP.bytes x HXM.out).below (hBr.trans (hB4.mono hBr.size))
              have s0 := obj_cell hseg4 0
              have s1 := obj_cell hseg4 1
              have s2 := obj_cell hseg4 2
              have s3 := obj_cell hseg4 3
              have v2 := obj_cell hpg4 2
              by_cases hin2 : av < x.data.length
              · have hd5 : decide (av < x.data.length) = true := decide_eq_true hin2
                have hi1' : (av : Int) ≤ (x.data.length : Int) := by omega
                have hi2' : (x.data.length : Int) ≤ (x.cap : Int) := by omega
                have hne : ¬ av = x.cap := by omega
                have hne2 : ¬ x.cap = av := by omega
                obtain ⟨xb, xo, hxa, _⟩ := hbs4.form (by intro h; have := congrArg List.length h; rw [bcells_length] at this; simp at this; rw [this] at hin2; simp at hin2)
                rw [hxa] at s2 hbs4 hseg4
                have hbd := Bs.drop_at hbs4 av
                have HXA := Lib.hid hxa
                have hlt4 := hbuf4.lt
                have hsb4 : sb ≠ g := by omega
                have hpb4 : pb ≠ g := fun e => hgp e.symm
                have hpl4 := lt_of_block hpg4
                have hsl4 := lt_of_block hseg4
                clear hxa
                go_wp2_with fail
                go_region_held3 (fun W' => W'.cell? ⟨pb, 2, none⟩ = some (.slice (some ⟨g, 0, none⟩) 4096 4096) ∧ W'.cell? ⟨sb, 2, none⟩ = some (.slice (some ⟨xb, xo, none⟩) x.data.length x.cap))
                  (first | exact ⟨v2, s2⟩ | exact ⟨y2, z2⟩)
                  (first
                    | (refine step_copyB2 rfl (.tmp 45) (.tmp 49) rfl g 0 4096 4096 rfl zeros (show Buf wc.drew g zeros from hbuf4) (some ⟨xb, xo + av, none⟩) (x.data.length - av) (x.cap - av) w.heap.size rfl (x.data.drop av) (show Bs w.heap.size wc.drew _ _ from hbd) (List.length_drop ..) (by rw [zeros_length]; exact Nat.le_refl _) (by omega) (by decide) ?_
                       intro w5 hb5 hk5
                       have y2 := (hk5.cell (p := ⟨pb, 2, none⟩) hpl4 hpb4).trans v2
                       have z2 := (hk5.cell (p := ⟨sb, 2, none⟩) hsl4 hsb4).trans s2))
                rw [page_data x.data i av HQ.out.2.1] at hb5
                have hk45 : Below wr.heap.size wc w5 := (Below.refl _ _).drew.trans (hk5.below (show wr.heap.size ≤ wc.heap.size by omega) (by rintro b rfl; omega))
                clear s0 s1 s2 s3 v2
                have hown5 := hown.below (hB4.trans hk45)
                have hseg5 := ((hk5.block sb hsl4 hsb4).trans hseg4)
                have hpg5 := ((hk5.block pb hpl4 hpb4).trans hpg4)
                have hB5w : Below w1.heap.size w1 w5 := hB.trans ((hB4.trans hk45).mono hB.size)
                have t0 := obj_cell hseg5 0
                have t1 := obj_cell hseg5 1
                have t2 := obj_cell hseg5 2
                have t3 := obj_cell hseg5 3
                have u0 := obj_cell hpg5 0
                have u1 := obj_cell hpg5 1
                have u2 := obj_cell hpg5 2
                have HB := Lib.hid hb5
                have hgs : g < w5.heap.size := HB.out.lt
                clear hbuf4
                go_wp2_with (at_builtin; refine wpList_appP _ rfl (.tmp 51) (.tmp 53) rfl w1.heap.size (.slice Ao2 qs.length co2) qs rfl (hown5.below ((Below.refl _ _).alloc (Nat.le_refl _) _)) _ _ ⟨x.addr + av, x.perm, some ⟨g, 0, none⟩, 4096, pageB x.data i⟩ rfl (lit_page _ x.addr av (g) x.perm (pageB x.data i) (pageB_length _ _)) (by intro e; have := (hown5.row.lt _ e).2; omega) (page_own (HB.out.below ((Below.refl _ _).alloc (Nat.le_refl _) _)) hgw (pageB_length _ _)) ⟨by show x.addr + av < _; omega, by show (pageB x.data i).length ≤ _; rw [pageB_length]; decide⟩ hqn2 (by rw [World.size_alloc]; exact Nat.le_succ_of_le hB5w.size) ?hc1)
                case hc1 =>
                  intro v' w6 hown6 hB6 hkeep
                  have hB6w : Below w1.heap.size w1 w6 := hB6 w1 (hB5w.alloc hB5w.size _)
                  have hseg6 := (hkeep sb (by have := lt_of_block hseg5; omega) (by intro e; obtain ⟨_, cur, hcx⟩ := hown5.row.block e; rw [hseg5] at hcx; cases hcx)).trans (obj_alloc hseg5)
                  obtain ⟨A6, c6, rfl, -⟩ := hown6.row.form
                  have HS := Lib.hid (show (qs ++ [(⟨x.addr + av, x.perm, some ⟨g, 0, none⟩, 4096, pageB x.data i⟩ : PgIn)]).map PgIn.pg = loadT (ss.map Sg.d) j ++ segPs x.d (i + 1) by
                    rw [List.map_append, HQ.out.1, segPs_succ, List.append_assoc, HQ.out.2.1]; rfl)
                  have e6 : (qs ++ [(⟨x.addr + av, x.perm, some ⟨g, 0, none⟩, 4096, pageB x.data i⟩ : PgIn)]).length = qs.length + 1 := by simp
                  have HO := Lib.hid (And.intro hown6 e6)
                  clear hown6 e6 hkeep hB6 t0 t1 t2 t3 u0 u1 u2 hseg5 hpg5 hown5
                  go_wp2
                  go_roundw
                  case rel => exact ⟨i + 1, av + 4096, c6, A6, _, by omega, by have := HQ.out.2.1; omega, by go_num, by rw [HO.out.2], HO.out.1, HS.out, (by first | exact hseg6 | (rw [HXA.out]; exact hseg6)), hB6w⟩
                  case measure => have := HQ.out.2.1; simp [intOf]; omega
              · have hd5 : decide (av < x.data.length) = false := decide_eq_false hin2
                rw [page_zero x.data i av HQ.out.2.1 (by omega)] at hbuf4
                clear s0 s1 s2 s3 v2
                have hown5 := hown.below (hB4)
                have hseg5 := hseg4
                have hpg5 := hpg4
                have hB5w : Below w1.heap.size w1 wc := hB.trans ((hB4).mono hB.size)
                have t0 := obj_cell hseg5 0
                have t1 := obj_cell hseg5 1
                have t2 := obj_cell hseg5 2
                have t3 := obj_cell hseg5 3
                have u0 := obj_cell hpg5 0
                have u1 := obj_cell hpg5 1
                have u2 := obj_cell hpg5 2
                have HB := Lib.hid hbuf4
                have hgs : g < wc.heap.size := HB.out.lt
                skip
                go_wp2_with (at_builtin; refine wpList_appP _ rfl (.tmp 51) (.tmp 53) rfl w1.heap.size (.slice Ao2 qs.length co2) qs rfl (hown5.below ((Below.refl _ _).alloc (Nat.le_refl _) _)) _ _ ⟨x.addr + av, x.perm, some ⟨g, 0, none⟩, 4096, pageB x.data i⟩ rfl (lit_page _ x.addr av (g) x.perm (pageB x.data i) (pageB_length _ _)) (by intro e; have := (hown5.row.lt _ e).2; omega) (page_own (HB.out.below ((Below.refl _ _).alloc (Nat.le_refl _) _)) hgw (pageB_length _ _)) ⟨by show x.addr + av < _; omega, by show (pageB x.data i).length ≤ _; rw [pageB_length]; decide⟩ hqn2 (by rw [World.size_alloc]; exact Nat.le_succ_of_le hB5w.size) ?hd1)
                case hd1 =>
                  intro v' w6 hown6 hB6 hkeep
                  have hB6w : Below w1.heap.size w1 w6 := hB6 w1 (hB5w.alloc hB5w.size _)
                  have hseg6 := (hkeep sb (by have := lt_of_block hseg5; omega) (by intro e; obtain ⟨_, cur, hcx⟩ := hown5.row.block e; rw [hseg5] at hcx; cases hcx)).trans (obj_alloc hseg5)
                  obtain ⟨A6, c6, rfl, -⟩ := hown6.row.form
                  have HS := Lib.hid (show (qs ++ [(⟨x.addr + av, x.perm, some ⟨g, 0, none⟩, 4096, pageB x.data i⟩ : PgIn)]).map PgIn.pg = loadT (ss.map Sg.d) j ++ segPs x.d (i + 1) by
                    rw [List.map_append, HQ.out.1, segPs_succ, List.append_assoc, HQ.out.2.1]; rfl)
                  have e6 : (qs ++ [(⟨x.addr + av, x.perm, some ⟨g, 0, none⟩, 4096, pageB x.data i⟩ : PgIn)]).length = qs.length + 1 := by simp
                  have HO := Lib.hid (And.intro hown6 e6)
                  clear hown6 e6 hkeep hB6 t0 t1 t2 t3 u0 u1 u2 hseg5 hpg5 hown5
                  go_wp2
                  go_roundw
                  case rel => exact ⟨i + 1, av + 4096, c6, A6, _, by omega, by have := HQ.out.2.1; omega, by go_num, by rw [HO.out.2], HO.out.1, HS.out, (by first | exact hseg6 | (rw [HXA.out]; exact hseg6)), hB6w⟩
                  case measure => have := HQ.out.2.1; simp [intOf]; omega
          · have hd4 : decide (av < x.size) = false := decide_eq_false (by rw [hsgn] at hin; omega)
            obtain rfl : i = segN x.d := by omega
            have HQ := Lib.hid (show qs.map PgIn.pg = loadT (ss.map Sg.d) (j + 1) by rw [hqs, loadT_succ HX.out.1])
            clear hqs hav hqn hsgn hql
            go_wp2
            go_roundw
            case rel => exact ⟨j + 1, co2, Ao2, qs, by omega, by go_num, rfl, hown, HQ.out, hB⟩
            case measure => simp [intOf]; omega
      · have hd3 : decide ((j : Int) < (n : Int)) = false := decide_eq_false (by omega)
        obtain rfl : j = n := by omega
        have HQ := Lib.hid (show ps.map PgIn.pg = loadT (ss.map Sg.d) (ss.map Sg.d).length by rw [List.length_map, HN.out]; exact HPS.out)
        have jr0 := obj_cell hir 0
        go_wp2_with (refine wpList_store_row (o := ⟨none, Op.store 37 (.tmp 2) (.tmp 58), _, _, _, _⟩) rfl 37 (.tmp 2) (.tmp 58) rfl (w.heap.size + 1) (cpuA en) rfl rfl 37 _ hcr Tryz_sizeCpuL rfl (cpu_one en) ?_)
        have hW := setRow_heap wr (w.heap.size + 1) _ (cpuA en) _ _ hcr
        refine bodyPost_ret (v := .tuple #[.agg (cpuA en), .slice Ao ps.length co, .int .i64 0]) (results_cpu _ rfl _ (w.heap.size + 1) (cpuA en) _ _ _ rfl rfl rfl hW rfl) rfl ?_
        exact .inl ⟨HC.out.1, Ao, co, ps, rfl, (hown.base hBa.size).row_set hcr, HQ.out, below_setRow hBr (Nat.le_succ _) _⟩
  · have hd : (checkE en (ss.map Sg.d) != 0) = true := by simpa using hc
    have h40 := check_no hc
    have HC := Lib.hid h40
    clear hc h40
    go_wp2_with (refine wpList_store_row (o := ⟨none, Op.store 37 (.tmp 2) (.tmp 15), _, _, _, _⟩) rfl 37 (.tmp 2) (.tmp 15) rfl (w.heap.size + 1) (cpuA 0) rfl rfl 37 _ hc1 Tryz_sizeCpuL rfl (cpu_one 0) ?_)
    have hW := setRow_heap w1 (w.heap.size + 1) _ (cpuA 0) _ _ hc1
    refine bodyPost_ret (v := .tuple #[.agg (cpuA 0), .slice none 0 0, .int .i64 (checkE en (ss.map Sg.d))]) (results_cpu _ rfl _ (w.heap.size + 1) (cpuA 0) _ _ _ rfl rfl rfl hW rfl) rfl ?_
    exact .inr ⟨HC.out, by rw [HC.out]; rfl, below_setRow hBa (Nat.le_succ _) _⟩
end Go.Proofs

/- what both Load tell, in one. -/
namespace Go.Pat
open Go Go.RowKit
def loadQ (en : Nat) (ss : List Sgd) : Nat × Nat × List Pgd := if checkE en ss = 0 then (en, 0, loadT ss ss.length) else (0, 40, [])
end Go.Pat
namespace Go.Proofs
open Go Go.RowKit Go.Pat

theorem loadE_open {w w' : World} {en : Nat} {ss : List Sgd} {e : Ending} (h : LoadE w en ss e w') : ∃ (en2 er n c : Nat) (A : Option Addr) (ps : List PgIn), loadQ en ss = (en2, er, ps.map PgIn.pg) ∧
    e = .returned (.tuple #[.agg (cpuA en2), .slice A n c, .int .i64 er]) ∧ PgsAt w'.heap.size w' A ps ∧ ps.length = n ∧ n ≤ 4096 ∧ Below w.heap.size w w' := by
  rcases h with ⟨hc, A, c, ps, rfl, hown, hps, hB⟩ | ⟨hc, rfl, hB⟩
  · have hl : ps.length ≤ 4096 := by
      have h1 := (load_pages hc).2.2
      rw [← hps, List.length_map] at h1
      exact h1
    obtain ⟨A2, c2, e, hP⟩ := hown.pgs (by omega)
    simp only [Value.slice.injEq] at e
    obtain ⟨rfl, -, rfl⟩ := e
    exact ⟨en, 0, ps.length, c, A, ps, by unfold loadQ; rw [if_pos hc, hps], rfl, hP, rfl, hl, hB⟩
  · exact ⟨0, 40, 0, 0, none, [], by unfold loadQ; rw [if_neg (by rw [hc]; decide)]; rfl, rfl, ⟨fun i hi => absurd hi (by simp), by simp, by simp, by simp⟩, rfl, by omega, hB⟩
end Go.Proofs
