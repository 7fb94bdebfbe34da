/- elf.Load and patinaref04.Load: what they have in common. -/
import Derived.Test.YtkgnodlhdilmoaaCpu
import Derived.Test.YtkgnodlhdilmoaaWhere
import Derived.Test.YtkgnodlhdilmoaaLoadP
import Derived.Test.YtkgnodlhdilmoaaPgs
namespace Go.Pat
open Go Go.RowKit
def cpuA (en : Nat) : Array Value := #[.int .u64 (en : Int), .int .u64 0, .int .u64 0, .int .u64 0, .int .u64 0, .int .u64 0, .int .u64 0, .int .u64 0, .int .u64 0, .int .u64 0, .int .u64 0, .int .u64 0, .int .u64 0, .int .u64 0, .int .u64 0, .int .u64 0, .int .u64 0, .int .u64 0, .int .u64 0, .int .u64 0, .int .u64 0, .int .u64 0, .int .u64 0, .int .u64 0, .int .u64 0, .int .u64 0, .int .u64 0, .int .u64 0, .int .u64 0, .int .u64 0, .int .u64 0, .int .u64 0, .int .u64 0, .int .i64 0, .bool false, .int .i64 0, .int .i64 0, .slice none 0 0, .int .i64 0]
theorem cpuV_A (en : Nat) : cpuV en = .agg (cpuA en) := rfl
/-- what both Load tell. -/
def LoadE (w : World) (en : Nat) (ss : List Sgd) (e : Ending) (w' : World) : Prop :=
  (checkE en ss = 0 ∧ ∃ A c ps, e = .returned (.tuple #[cpuV en, .slice A ps.length c, .int .i64 0]) ∧ Go.Proofs.OwnPs w' w.heap.size (.slice A ps.length c) ps ∧ ps.map PgIn.pg = loadT ss ss.length ∧ Below w.heap.size w w') ∨
  (checkE en ss = 40 ∧ e = .returned (.tuple #[cpuV 0, .slice none 0 0, .int .i64 40]) ∧ Below w.heap.size w w')
end Go.Pat
namespace Go.Proofs
open Go Go.RowKit Go.Pat

theorem Bs.takeL {B : Nat} {w : World} {A : Option Addr} {l : List UInt8} (h : Bs B w A l) (c : Nat) : Bs B w A (l.take c) := by
  have h1 := Cs.take h c
  have h3 : bcells (l.take c) = (bcells l).take c := by simp [bcells, List.map_take]
  show Cs _ _ _ (bcells _)
  rw [h3]
  exact h1
theorem run_copyB2 (w : World) (ty : TypeId) (g off dLen dCap : Nat) (l : List UInt8) (hB : Buf w g l) (A : Option Addr) (sLen sCap B : Nat) (xs : List UInt8) (hr : Bs B w A xs) (hx : xs.length = sLen) (hfit : off + dLen ≤ l.length) (hpos : 0 < sLen) (hd : 0 < dLen) :
    ∃ w', (Builtin.copy_ #[35, 35] ty #[.slice (some ⟨g, off, none⟩) dLen dCap, .slice A sLen sCap]).run Try.prog w = .ok (goInt ((min dLen sLen : Nat) : Int)) w' ∧ Buf w' g (splice l off (xs.take dLen)) ∧ KeptBut (fun b => b = g) w w' := by
  obtain ⟨b, o, rfl, _⟩ := hr.form (by intro h; have := congrArg List.length h; rw [bcells_length] at this; simp at this; rw [this] at hx; simp at hx; omega)
  have hxt : (xs.take dLen).length = min dLen sLen := by rw [List.length_take, hx]
  have hrun := run_copy_row (P := Try.prog) w 35 35 ty 5 g off dLen dCap ⟨b, o, none⟩ sLen sCap (bcells l).toArray 5 (bcells (xs.take dLen)) Try.underlying35 Try_sizeU8 hB (by rw [bcells_length, hxt, Nat.min_comm]) ((Bs.takeL hr dLen).news rfl) (by rw [bcells_length, List.size_toArray, bcells_length, hxt]; omega) (bcells_one _)
  rw [bcells_length, hxt] at hrun
  refine ⟨_, hrun, ?_, rfl, rfl, rfl, by simp [World.setRow], fun k _ hk => setRow_other w g k _ hk⟩
  have hs := setRow_heap w g (bcells l).toArray (((bcells l).toArray.toList.take off ++ bcells (xs.take dLen) ++ (bcells l).toArray.toList.drop (off + min dLen sLen)).toArray) _ _ hB
  unfold Buf
  rw [hs, ← bcells_splice]
  simp only [splice, bcells_length, hxt, List.append_assoc]
theorem wpList_copyB2 {ops : Array Oper} {rest : List Oper} {o : Oper} {a : Act} {Q : Exit → Act → World → Prop} (w : World) (hgd : o.guard = none) (d s : Operand)
    (ho : o.op = .call { callee := .builtin .copy, args := #[d, s], argTypes := #[35, 35] }) (g off dLen dCap : Nat) (hd : a.eval d = .slice (some ⟨g, off, none⟩) dLen dCap) (l : List UInt8) (hB : Buf w g l)
    (A : Option Addr) (sLen sCap B : Nat) (hs : a.eval s = .slice A sLen sCap) (xs : List UInt8) (hr : Bs B w A xs) (hx : xs.length = sLen) (hfit : off + dLen ≤ l.length) (hpos : 0 < sLen) (hdp : 0 < dLen)
    (h : ∀ w', Buf w' g (splice l off (xs.take dLen)) → KeptBut (fun b => b = g) w w' → wpList Try.prog ops Q rest (a.put o.dst (goInt ((min dLen sLen : Nat) : Int))) w') :
    wpList Try.prog ops Q (o :: rest) a w := by
  refine wpList_plain hgd fun K hK => ?_
  obtain ⟨w', hrun, h1, h2⟩ := run_copyB2 w o.type g off dLen dCap l hB A sLen sCap B xs hr hx hfit hpos hdp
  unfold Oper.wp
  simp [execOp, ho, resolve, invoke, builtin, hd, hs, hrun, Result.andThen]
  exact hK _ _ (h w' h1 h2)
theorem step_copyB2 {ops : Array Oper} {o : Oper} {a : Act} {w : World} {K : Act → World → Prop} {Q : Exit → Act → World → Prop} {E : Prop} (hgd : o.guard = none) (d s : Operand)
    (ho : o.op = .call { callee := .builtin .copy, args := #[d, s], argTypes := #[35, 35] }) (g off dLen dCap : Nat) (hd : a.eval d = .slice (some ⟨g, off, none⟩) dLen dCap) (l : List UInt8) (hB : Buf w g l)
    (A : Option Addr) (sLen sCap B : Nat) (hs : a.eval s = .slice A sLen sCap) (xs : List UInt8) (hr : Bs B w A xs) (hx : xs.length = sLen) (hfit : off + dLen ≤ l.length) (hpos : 0 < sLen) (hdp : 0 < dLen)
    (h : ∀ w', Buf w' g (splice l off (xs.take dLen)) → KeptBut (fun b => b = g) w w' → K (a.put o.dst (goInt ((min dLen sLen : Nat) : Int))) w') :
    if Region.wanted o (yielded ops a.tmps) = true then Oper.wp Try.prog o a w K Q else E := by
  have hw : Region.wanted o (yielded ops a.tmps) = true := by simp [Region.wanted, hgd]
  rw [if_pos hw]
  obtain ⟨w', hrun, h1, h2⟩ := run_copyB2 w o.type g off dLen dCap l hB A sLen sCap B xs hr hx hfit hpos hdp
  unfold Oper.wp
  simp [execOp, ho, resolve, invoke, builtin, hd, hs, hrun, Result.andThen]
  exact h w' h1 h2
theorem OwnB.of_buf {w : World} {g base : Nat} {l : List UInt8} (h : Buf w g l) (hg : base ≤ g) (hl : l.length ≤ 281474976710656) : OwnB w base (.slice (some ⟨g, 0, none⟩) l.length l.length) l := by
  refine ⟨by rw [bcells_length, Nat.mul_one], .inr ⟨g, l.length, _, rfl, hg, h, Nat.le_refl _, by simp only [maxLen]; omega, by simp [bcells_length], ?_⟩⟩
  rw [Nat.mul_one]
  exact List.take_of_length_le (by simp [bcells_length])
theorem Try_sizeCpu : (Try.prog.info? 60).map (·.size) = some 39 := by kernel_rfl
theorem cpu_cells (b : Nat) (cs : Array Value) (W : World) (hb : W.heap[b]? = some (.cells cs 60 (0, 0))) (n : Nat) (hn : cs.size = n) : (loadCellsFrom ⟨b, 0, none⟩ 0 n #[]).run Try.prog W = .ok cs W := by
  subst hn
  have := run_loadCells_list (P := Try.prog) W ⟨b, 0, none⟩ cs.toList (fun j v hv => by
    have hadd : (⟨b, 0, none⟩ : Addr).add j = ⟨b, j, none⟩ := by unfold Addr.add; split <;> simp_all
    rw [hadd, cell_of_row _ _ j cs _ (0, 0) hb]
    simpa using hv)
  simpa [loadCells] using this
theorem cpu_load (b : Nat) (cs : Array Value) (W : World) (hb : W.heap[b]? = some (.cells cs 60 (0, 0))) (hn : cs.size = 39) : (loadVar 60 ⟨b, 0, none⟩).run Try.prog W = .ok (.agg cs) W := by
  have := run_loadVar_mid (P := Try.prog) W b 0 60 cs.toList _ (fun j v hv => by rw [Nat.zero_add, cell_of_row _ _ j cs _ (0, 0) hb]; simpa using hv) Try.underlying60 rfl (by rw [Array.length_toList, hn]; exact Try_sizeCpu)
  simpa using this
theorem results_cpu (fn : Func) (hf : fn.results = #[.cell 2 60, .tmp 3, .tmp 4]) (tmps : Array Value) (b : Nat) (cs : Array Value) (W : World) (v3 v4 : Value) (h2 : tmps[2]?.getD undef = .pointer (some ⟨b, 0, none⟩)) (h3 : tmps[3]?.getD undef = v3) (h4 : tmps[4]?.getD undef = v4)
    (hb : W.heap[b]? = some (.cells cs 60 (0, 0))) (hn : cs.size = 39) : (results fn tmps).run Try.prog W = .ok (.tuple #[.agg cs, v3, v4]) W := by
  have hl := cpu_load b cs W hb hn
  unfold results
  rw [hf]
  simp [h2, h3, h4, asAddr, Sem.run_bind, Sem.run_pure, hl]
theorem pagT_mono {ss : List Sgd} {k n : Nat} (h : k ≤ n) : pagT ss k ≤ pagT ss n := by
  induction n with
  | zero => obtain rfl : k = 0 := by omega
            exact Nat.le_refl _
  | succ n ih =>
    by_cases e : k = n + 1
    · rw [e]; exact Nat.le_refl _
    · refine Nat.le_trans (ih (by omega)) ?_
      rw [pagT]
      exact Nat.le_add_right _ _
theorem OwnP.base {w : World} {base b2 : Nat} {v : Value} {ss : List PgIn} (h : OwnP w base v ss) (hb : b2 ≤ base) : OwnP w b2 v ss := by
  refine ⟨h.1, ?_⟩
  rcases h.2 with h0 | ⟨g, cap, cur, hv, hg, r⟩
  · exact .inl h0
  · exact .inr ⟨g, cap, cur, hv, by omega, r⟩
theorem OwnPs.base {w : World} {base b2 : Nat} {v : Value} {ss : List PgIn} (h : OwnPs w base v ss) (hb : b2 ≤ base) : OwnPs w b2 v ss := ⟨h.row.base hb, fun s hs => (h.bytes s hs).base hb, h.small⟩
theorem OwnPs.row_set {w : World} {base : Nat} {v : Value} {ss : List PgIn} (h : OwnPs w base v ss) {r : Nat} {cs cs' : Array Value} (hr : w.heap[r]? = some (.cells cs 60 (0, 0))) : OwnPs (w.setRow r cs') base v ss :=
  h.put hr (by decide) (by decide) ⟨rfl, rfl, rfl, by simp [World.setRow], fun k _ hk => setRow_other w r k cs' hk⟩
theorem cpu_one (en : Nat) : (cpuA en).all (·.oneCell') = true := by simp [cpuA, Value.oneCell']
theorem below_setRow {B : Nat} {a b : World} (h : Below B a b) {r : Nat} (hr : B ≤ r) (cs : Array Value) : Below B a (b.setRow r cs) :=
  ⟨h.os, h.tape, h.output, by have := h.size; simpa [World.setRow] using this, fun k hk => (setRow_other b r k cs (by omega)).trans (h.block k hk)⟩
theorem wpList_makeZ {ops : Array Oper} {rest : List Oper} {o : Oper} {a : Act} {Q : Exit → Act → World → Prop} (w : World) (hgd : o.guard = none) (x y : Operand) (ho : o.op = Op.makeSlice 35 x y)
    (hx : a.eval x = .int .i64 4096) (hy : a.eval y = .int .i64 4096)
    (h : ∀ w', Buf w' w.heap.size zeros → Below w.heap.size w w' → w'.heap.size = w.heap.size + 1 → wpList Try.prog ops Q rest (a.put o.dst (.slice (some ⟨w.heap.size, 0, none⟩) 4096 4096)) w') :
    wpList Try.prog ops Q (o :: rest) a w := wpList_makeB w hgd x y ho .i64 4096 hx hy (by decide) h
theorem lit_page (W : World) (base av g : Nat) (perm : Int) (d : List UInt8) (hd : d.length = 4096) : (W.alloc (.cells #[.int .u64 ((base : Int) + (av : Int)), .int .i64 perm, .slice (some ⟨g, 0, none⟩) 4096 4096] 71)).heap[W.heap.size]? = some (.cells (PgIn.cells ⟨base + av, perm, some ⟨g, 0, none⟩, 4096, d⟩).toArray 71 (0, 0)) := by
  rw [heap_alloc_new]
  simp [PgIn.cells, hd]
theorem page_own {w : World} {g base : Nat} {d : List UInt8} (hb : Buf w g d) (hg : base ≤ g) (hd : d.length = 4096) : OwnB w base (.slice (some ⟨g, 0, none⟩) d.length 4096) d := by
  have := OwnB.of_buf hb hg (by omega)
  rw [hd] at this ⊢
  exact this
theorem page_data (d : List UInt8) (i a : Nat) (ha : a = 4096 * i) : splice zeros 0 ((d.drop a).take 4096) = pageB d i := by subst ha; rfl
theorem page_zero (d : List UInt8) (i a : Nat) (ha : a = 4096 * i) (h : d.length ≤ a) : zeros = pageB d i := by
  subst ha
  unfold pageB zeros
  rw [List.drop_eq_nil_of_le h, List.take_nil, splice_nil]
theorem Bs.drop_at {B : Nat} {w : World} {b o : Nat} {l : List UInt8} (h : Bs B w (some ⟨b, o, none⟩) l) (f : Nat) : Bs B w (some ⟨b, o + f, none⟩) (l.drop f) := by
  have := Bs.cut h f l.length
  rwa [List.take_of_length_le (by rw [List.length_drop]; omega)] at this
end Go.Proofs
