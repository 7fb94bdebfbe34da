/- The arguments opened: byte slices, pages. -/
import Derived.Test.YtemngapfnkokiaaGreatDoorMemTop
import Derived.ProofKit
import Derived.SizedLaws
import Derived.Deep.Slices
import Derived.Deep.Fields
import Derived.Lib.SmallJoins
import Derived.Test.YtemngapfnkokiaaGreatDoorRows
import Derived.Test.YtemngapfnkokiaaGreatDoorNews
import Derived.OpenShut
import Derived.LaidMore
import Derived.Deep.CondSized
import Derived.Stop.Joined
import Derived.Test.YtemngapfnkokiaaGreatDoorDec
namespace Go.Pat
open Go Go.RowKit Go.Joins Go.ChangeShapes Go.WideShapes Go.Deep

section
variable {H : Type} {enc : TypeId × Value → H} {P : Program} {w : World} {base : Nat} {spare : Nat → Bool} {held : Bool}
theorem open_slice_fields {t e : TypeId} {fs : Array Field} {fuel : Nat} {cs : List Value} {x : DataW H × List MemPlace} (ht : P.underlying t = some (.slice e)) (he : P.underlying e = some (.struct fs))
    (hone : oneCellFields P fs = true) (hC : P.cellsOf e = fs.size) (h : DataW.trod enc P w base spare held fuel t cs = some x) :
    (cs = [.slice none 0 0] ∧ x = (.nil, [])) ∨
    ∃ (a : Addr) (len cap m : Nat) (D : Nat → DataW H) (Pl : Nat → List MemPlace), cs = [.slice (some a) len cap] ∧ base ≤ a.block ∧ len ≤ cap ∧ cap ≤ maxLen ∧ m = (if spare a.block then cap else len) ∧
      x = (.slice ((List.range len).map D) ((List.range (m - len)).map fun j => D (len + j)), MemPlace.row a (m * fs.size) ++ (List.range m).flatMap Pl) ∧
      ∀ i, i < m → ∃ (ys : List (DataW H × List MemPlace)) (n : Nat), D i = .agg (ys.map (·.1)) ∧ Pl i = ys.flatMap (·.2) ∧ ys.length = fs.size ∧
        ∀ (j : Nat) (f : Field), fs[j]? = some f → ∃ (v : Value) (y : DataW H × List MemPlace), w.cell? (a.add (i * fs.size + j)) = some v ∧ ys[j]? = some y ∧ DataW.trod enc P w base spare held n f.type [v] = some y := by
  rcases open_slice ht h with h0 | ⟨a, len, cap, m, n, D, Pl, hcs, hb, hl, hm, hmm, hx, hi⟩
  · exact .inl h0
  · refine .inr ⟨a, len, cap, m, D, Pl, hcs, hb, hl, hm, hmm, by rw [hC] at hx; exact hx, fun i him => ?_⟩
    obtain ⟨cs', hc, ht'⟩ := hi i him
    rw [hC] at hc
    obtain ⟨ys, n', hn', hy, hlen, hyl, hf⟩ := DataW.trod_struct he ht'
    obtain ⟨_, hcl, hat⟩ := World.cells?_some hc
    simp only [Prod.mk.injEq] at hy
    refine ⟨ys, n', hy.1, hy.2, hyl, fun j f hj => ?_⟩
    obtain ⟨ho, hk⟩ := hone_of hone j f hj
    have hjl : j < fs.size := (Array.getElem?_eq_some_iff.1 hj).1
    have hcell := hat j hjl
    have hv : cs'[j]? = some (cs'[j]'(by omega)) := List.getElem?_eq_getElem (by omega)
    have h1 := hf j f hj
    rw [ho, hk] at h1
    have hone' : (cs'.drop j).take 1 = [cs'[j]'(by omega)] := by
      rw [List.drop_eq_getElem_cons (by omega)]
      rfl
    rw [hone'] at h1
    have hys : ys[j]? = some (ys[j]'(by omega)) := List.getElem?_eq_getElem (by omega)
    refine ⟨_, _, ?_, hys, h1.trans hys⟩
    rw [← Go.Deep.add_add, hcell, hv]

theorem weightsAll_mem {e : TypeId} {ds : List (DataW H)} {d : DataW H} (hd : d ∈ ds) {n : Nat} (hn : n ∈ d.weights P e) : n ∈ DataW.weightsAll P e ds := by
  induction ds with
  | nil => cases hd
  | cons c r ih =>
    simp only [DataW.weightsAll, List.mem_append]
    rcases List.mem_cons.1 hd with rfl | h
    · exact .inl hn
    · exact .inr (ih h)
theorem spot_of_cell {a : Addr} {v : Value} (h : w.cell? a = some v) : a.spot = none := by
  unfold World.cell? at h
  split at h
  · split at h
    · cases h
    · rename_i hs; simpa using hs
  · cases h
theorem block_of_cell {a : Addr} {v : Value} (h : w.cell? a = some v) : a.block < w.heap.size := by
  unfold World.cell? at h
  split at h
  · exact lt_of_block ‹_›
  · cases h
theorem addr_of_cell {a : Addr} {i : Nat} {v v0 : Value} (h : w.cell? (a.add i) = some v) (h0 : w.cell? (a.add 0) = some v0) : a = ⟨a.block, a.off, none⟩ ∧ w.cell? ⟨a.block, a.off + i, none⟩ = some v := by
  have hs : a.spot = none := spot_of_cell h0
  have ha : a = ⟨a.block, a.off, none⟩ := by cases a; simp_all
  refine ⟨ha, ?_⟩
  rw [← h]
  unfold Addr.add
  split
  · rename_i h0; subst h0; rw [Nat.add_zero, ← ha]
  · rfl
end
section
variable {H : Type} {enc : TypeId × Value → H} {P : Program}
/-- all arguments read as they did: below the old size nothing has turned. -/
theorem trodAll_stay (hl : laidOutB P = true) {W W' : World} {sp : Nat → Bool} (hb : Below W.heap.size W W') : ∀ (ts : List TypeId) (vs : List Value) (ds : List (DataW H)) (ps : List MemPlace),
    (∀ t ∈ ts, P.readableRec t = true ∧ t < P.types.size) → DataW.TrodAll enc P W 0 (fun _ => true) true ts vs ds ps → (∀ x ∈ ps, x.block < W.heap.size) → (∀ x ∈ ps, sp x.block = true) → DataW.TrodAll enc P W' 0 sp true ts vs ds ps
  | [], vs, ds, ps, _, h, _, _ => by
    obtain ⟨rfl, rfl, rfl⟩ := trodAll_nil h
    exact trodAll_mk0
  | t :: ts, vs, ds, ps, ht, h, hlt, hsp => by
    obtain ⟨v, vs', d, ds', a, b, rfl, rfl, rfl, h1, h2⟩ := trodAll_cons h
    exact ⟨a, b, WideElems.Trod_stays hl (ht t (by simp)).1 (ht t (by simp)).2 h1 (fun x hx => hb.same (hlt x (List.mem_append_left _ hx))) (fun x hx => hsp x (List.mem_append_left _ hx)),
      trodAll_stay hl hb ts vs' ds' b (fun t' h' => ht t' (by simp [h'])) h2 (fun x hx => hlt x (List.mem_append_right _ hx)) (fun x hx => hsp x (List.mem_append_right _ hx)), rfl⟩

/-- the row's closing where the call has turned nothing that was there. -/
theorem post_below {f : Func} {s : ChangeSpec} {apart fresh handsOn : Bool} {W W' : World} {args : Array Value} {v : Value} {ds : List (DataW H)} {before : List MemPlace}
    (hW : DataW.Whole enc P f.params.toList s.vars apart W args.toList ds [] before) (hA : DataW.TrodAll enc P W 0 (fun _ => true) true f.params.toList args.toList ds before)
    (hl : laidOutB P = true) (hr : ∀ t ∈ f.params.toList, P.readableRec t = true ∧ t < P.types.size) (hb : Below W.heap.size W W')
    (hv : s.vars = []) (hargs : (s.fn H (ds ++ [])).args = ds) (hvars : (s.fn H (ds ++ [])).vars = [])
    (hres : ∀ (b : Nat) (sp : Nat → Bool) (hd : Bool), DataW.TrodAll enc P W' b sp hd f.resultTypes.toList (v.resultList f.resultTypes.size) (s.fn H (ds ++ [])).results []) :
    s.post enc P f apart fresh handsOn false W args v W' := by
  have hold : ∀ p ∈ before, (fun b => decide (b < W.heap.size)) p.block = true := fun p hp => by simpa using hW.lt p hp
  refine ⟨ds, [], before, [], before, [], hW, hres _ _ _, ?_, ?_, World.keptBut_mono (fun p hp => ⟨hp, .inr (.inl hp)⟩) (hb.frame (· ∈ before)), fun h => by cases h⟩
  · rw [hargs]; exact trodAll_stay hl hb _ _ _ _ hr hA (fun x hx => hW.lt x hx) hold
  · rw [hv, hvars]; rfl
end
end Go.Pat
namespace Go.Proofs
open Go Go.RowKit Go.Pat Go.Joins Go.ChangeShapes Go.WideShapes Go.Deep
instance : Inhabited PgIn := ⟨⟨0, 0, none, 0, []⟩⟩
section
variable {H : Type} {enc : TypeId × Value → H} {w : World} {base : Nat} {spare : Nat → Bool} {held : Bool}
theorem Tryz_cells8 : Tryz.prog.cellsOf 5 = 1 := by kernel_rfl
theorem Tryz_bytes8 : Tryz.prog.bytesOf 5 = 1 := by kernel_rfl
theorem Tryz_cellsP : Tryz.prog.cellsOf 54 = 3 := by kernel_rfl
theorem Tryz_bytesP : Tryz.prog.bytesOf 54 = 40 := by kernel_rfl

theorem open_bytes {fuel : Nat} {cs : List Value} {x : DataW H × List MemPlace} (h : DataW.trod enc Tryz.prog w base spare held fuel 25 cs = some x) (hs : ∀ n ∈ x.1.weights Tryz.prog 25, n ≤ reachBytes) :
    ∃ (A : Option Addr) (cap : Nat) (l : List UInt8), cs = [.slice A l.length cap] ∧ Bs w.heap.size w A l ∧ l.length ≤ 140737488351232 := by
  rcases open_slice1 Tryz.underlying25 Tryz_cells8 h with ⟨rfl, _⟩ | ⟨a, len, cap, m, n, V, D, Pl, rfl, hb, hl, hm, hmm, rfl, hx⟩
  · exact ⟨none, 0, [], rfl, .nil, by simp⟩
  · have hlm : len ≤ m := by rw [hmm]; split <;> omega
    have hV : ∀ i, i < len → ∃ b : UInt8, V i = .int .u8 (b.toNat : Int) := fun i hi => by
      obtain ⟨z, h1, _, h3⟩ := DataW.trod_int Tryz.underlying5 (hx i (by omega)).2
      simp only [List.cons.injEq, and_true] at h1
      have hz : 0 ≤ z ∧ z ≤ 255 := by have := h3; simp [Lit.wf] at this; exact this
      exact ⟨UInt8.ofNat z.toNat, by rw [h1, UInt8.toNat_ofNat']; congr 1; omega⟩
    obtain ⟨B, hB⟩ := choose_lt hV
    refine ⟨some a, cap, (List.range len).map B, by simp, fun i hi => ?_, ?_⟩
    · have hi' : i < len := by simpa [bcells] using hi
      obtain ⟨h1, h2⟩ := addr_of_cell (hx i (by omega)).1 (hx 0 (by omega)).1
      refine ⟨a.block, a.off, by rw [← h1], block_of_cell (a := ⟨a.block, a.off + i, none⟩) h2, ?_⟩
      rw [h2, hB i hi']
      simp [bcells, bval]
    · have := hs ((((List.range len).map D).length + ((List.range (m - len)).map fun j => D (len + j)).length) * Tryz.prog.bytesOf 5) (by simp [DataW.weights, Tryz.underlying25])
      rw [Tryz_bytes8] at this
      simp only [List.length_map, List.length_range, reachBytes] at this ⊢
      omega

/- the elements' own weights. -/
theorem slice_weights {P : Program} {t e : TypeId} (ht : P.underlying t = some (.slice e)) {elems sp : List (DataW H)} (hs : ∀ n ∈ (DataW.slice elems sp).weights P t, n ≤ reachBytes) : ((elems.length + sp.length) * P.bytesOf e ≤ reachBytes) ∧ ∀ d ∈ elems, ∀ n ∈ d.weights P e, n ≤ reachBytes := by
  refine ⟨hs _ (by simp [DataW.weights, ht]), fun d hd n hn => hs n ?_⟩
  simp only [DataW.weights, ht, List.mem_cons, List.mem_append]
  exact .inr (.inl (weightsAll_mem hd hn))
theorem agg_weights {P : Program} {t : TypeId} {fs : Array Field} (ht : P.underlying t = some (.struct fs)) {parts : List (DataW H)} (hs : ∀ n ∈ (DataW.agg parts).weights P t, n ≤ reachBytes) (j : Nat) {f : Field} {d : DataW H} (hf : fs[j]? = some f) (hd : parts[j]? = some d) : ∀ n ∈ d.weights P f.type, n ≤ reachBytes := by
  intro n hn
  refine hs n ?_
  simp only [DataW.weights, ht]
  exact DataW.weights_mem_each (j := j) (by simp [hf]) hd n hn

theorem open_pages {fuel : Nat} {cs : List Value} {x : DataW H × List MemPlace} (h : DataW.trod enc Tryz.prog w base spare held fuel 28 cs = some x) (hs : ∀ n ∈ x.1.weights Tryz.prog 28, n ≤ reachBytes) :
    ∃ (A : Option Addr) (cap : Nat) (ps : List PgIn), cs = [.slice A ps.length cap] ∧ PgsAt w.heap.size w A ps := by
  rcases open_slice_fields Tryz.underlying28 Tryz.underlying54 (by kernel_rfl) Tryz_cellsP h with ⟨rfl, _⟩ | ⟨a, len, cap, m, D, Pl, rfl, hb, hl, hm, hmm, rfl, hx⟩
  · exact ⟨none, 0, [], rfl, fun i hi => absurd hi (by simp), by simp, by simp, by simp⟩
  · have hlm : len ≤ m := by rw [hmm]; split <;> omega
    obtain ⟨hw1, hw2⟩ := slice_weights Tryz.underlying28 hs
    rw [Tryz_bytesP] at hw1
    simp only [List.length_map, List.length_range, reachBytes] at hw1
    have hV : ∀ i, i < len → ∃ p : PgIn, w.cell? (a.add (i * 3)) = some (.int .u64 (p.base : Int)) ∧ w.cell? (a.add (i * 3 + 1)) = some (.int .i64 p.perm) ∧ w.cell? (a.add (i * 3 + 2)) = some (.slice p.A p.data.length p.cap) ∧
        Bs w.heap.size w p.A p.data ∧ p.base < 18446744073709551616 ∧ p.data.length ≤ 140737488351232 := fun i hi => by
      obtain ⟨ys, n, hD, _, hlen, hf⟩ := hx i (by omega)
      obtain ⟨v0, y0, c0, e0, t0⟩ := hf 0 _ rfl
      obtain ⟨v1, y1, c1, e1, t1⟩ := hf 1 _ rfl
      obtain ⟨v2, y2, c2, e2, t2⟩ := hf 2 _ rfl
      obtain ⟨z0, h0, _, k0⟩ := DataW.trod_int Tryz.underlying22 t0
      obtain ⟨z1, h1, _, k1⟩ := DataW.trod_int Tryz.underlying3 t1
      have hz : 0 ≤ z0 ∧ z0 ≤ 18446744073709551615 := by have := k0; simp [Lit.wf] at this; exact this
      have hDi := hw2 (D i) (List.mem_map.2 ⟨i, List.mem_range.2 hi, rfl⟩)
      rw [hD] at hDi
      obtain ⟨A, c, l, h2, hB, hl2⟩ := open_bytes t2 (agg_weights Tryz.underlying54 hDi 2 rfl (by simp [e2]))
      simp only [List.cons.injEq, and_true] at h0 h1 h2
      subst h0 h1 h2
      exact ⟨⟨z0.toNat, z1, A, c, l⟩, by rw [show ((z0.toNat : Nat) : Int) = z0 by omega]; exact c0, c1, c2, hB, by show z0.toNat < _; omega, hl2⟩
    obtain ⟨p, hp⟩ := choose_lt hV
    refine ⟨some a, cap, (List.range len).map p, by simp, fun i hi => ?_, ?_, ?_, ?_⟩
    · have hi' : i < len := by simpa using hi
      obtain ⟨q0, q1, q2, _⟩ := hp i hi'
      obtain ⟨r0, _, _, _⟩ := hp 0 (by omega)
      rw [Nat.zero_mul] at r0
      obtain ⟨h1, h2⟩ := addr_of_cell q0 r0
      refine ⟨a.block, a.off, by rw [← h1], block_of_cell (a := ⟨a.block, a.off + i * 3, none⟩) h2, ?_, ?_, ?_⟩
      · rw [h2]; simp
      · rw [Nat.add_assoc, (addr_of_cell q1 r0).2]; simp
      · rw [Nat.add_assoc, (addr_of_cell q2 r0).2]; simp
    · intro q hq
      obtain ⟨i, hi, rfl⟩ := List.mem_map.1 hq
      exact (hp i (List.mem_range.1 hi)).2.2.2.1
    · intro q hq
      obtain ⟨i, hi, rfl⟩ := List.mem_map.1 hq
      exact (hp i (List.mem_range.1 hi)).2.2.2.2
    · simp only [List.length_map, List.length_range]; omega
end
end Go.Proofs

/- A case of patinalaw03, opened: a machine's state, pages, bytes, a number; its readings are small. -/
namespace Go.Proofs.YtemngapfnkokiaaGreatDoor
open Go Go.RowKit Go.Pat Go.Joins Go.ChangeShapes Go.WideShapes Go.Deep
section
variable {H : Type} {enc : TypeId × Value → H} {w : World} {base : Nat} {spare : Nat → Bool} {held : Bool}
theorem list8 {α : Type} : ∀ {l : List α}, l.length = 8 → ∃ a b c d e f g h, l = [a, b, c, d, e, f, g, h]
  | [a, b, c, d, e, f, g, h], _ => ⟨a, b, c, d, e, f, g, h, rfl⟩
theorem list4 {α : Type} : ∀ {l : List α}, l.length = 4 → ∃ a b c d, l = [a, b, c, d]
  | [a, b, c, d], _ => ⟨a, b, c, d, rfl⟩
theorem bulk_pos (d : DataW H) : 1 ≤ Rows.uptoBulk d := by
  cases d with
  | lit l => cases l <;> simp [Rows.uptoBulk]
  | _ => simp [Rows.uptoBulk]
theorem bulk_len (l : List (DataW H)) : l.length ≤ Rows.uptoBulkAll l := by
  induction l with
  | nil => simp
  | cons d l ih =>
    have := bulk_pos d
    simp only [List.length_cons, Rows.uptoBulkAll]
    omega
theorem bulk_mem {l : List (DataW H)} {j : Nat} {d : DataW H} (h : l[j]? = some d) : Rows.uptoBulk d ≤ Rows.uptoBulkAll l := by
  induction l generalizing j with
  | nil => simp at h
  | cons a l ih =>
    simp only [Rows.uptoBulkAll]
    cases j with
    | zero => simp only [List.getElem?_cons_zero, Option.some.injEq] at h; subst h; omega
    | succ j => have := ih (j := j) (by simpa using h); omega
theorem bulk_agg (l : List (DataW H)) : Rows.uptoBulkAll l ≤ Rows.uptoBulk (DataW.agg l) := by simp [Rows.uptoBulk]
theorem bulk_bytes {fuel : Nat} {cs : List Value} {x : DataW H × List MemPlace} (h : DataW.trod enc Tryz.prog w base spare held fuel 25 cs = some x) {A : Option Addr} {n c : Nat} (hcs : cs = [.slice A n c]) : n ≤ Rows.uptoBulk x.1 := by
  rcases open_slice1 Tryz.underlying25 Tryz_cells8 h with ⟨h0, _⟩ | ⟨a, len, cap, m, k, V, D, Pl, h0, hb, hl, hm, hmm, rfl, hx⟩
  · rw [h0] at hcs
    simp only [List.cons.injEq, Value.slice.injEq, and_true] at hcs
    omega
  · rw [h0] at hcs
    simp only [List.cons.injEq, Value.slice.injEq, and_true] at hcs
    have h1 := bulk_len ((List.range len).map D)
    simp only [List.length_map, List.length_range] at h1
    simp only [Rows.uptoBulk]
    omega
theorem take_drop (l : List Value) (a k : Nat) : l.drop a = (l.drop a).take k ++ l.drop (a + k) := by
  have := (List.take_append_drop k (l.drop a)).symm
  rwa [List.drop_drop] at this
theorem natLit {n : Int} (h : (Lit.int .u64 n).wf = true) : ∃ k : Nat, n = (k : Int) ∧ k < 18446744073709551616 := by
  have hz : 0 ≤ n ∧ n ≤ 18446744073709551615 := by simp [Lit.wf] at h; exact h
  exact ⟨n.toNat, by omega, by omega⟩
theorem open_regs {fuel : Nat} {cs : List Value} {x : DataW H × List MemPlace} (h : DataW.trod enc Tryz.prog w base spare held fuel 23 cs = some x) :
    ∃ l : List Nat, cs = l.map rV ∧ l.length = 32 ∧ ∀ i, l.getD i 0 < 18446744073709551616 := by
  obtain ⟨xs, m, _, rfl, hl, hn, hel⟩ := DataW.trod_array Tryz.underlying23 h
  have e1 : Tryz.prog.cellsOf 22 = 1 := by kernel_rfl
  have e2 : Tryz.prog.cellsOf 23 = 32 := by kernel_rfl
  rw [e2] at hl
  have hV : ∀ i, i < 32 → ∃ k : Nat, cs[i]? = some (rV k) ∧ k < 18446744073709551616 := fun i hi => by
    have h1 := hel i hi
    rw [e1, Nat.mul_one, List.getElem?_eq_getElem (by omega)] at h1
    obtain ⟨n, h2, _, h3⟩ := DataW.trod_int Tryz.underlying22 h1
    obtain ⟨k, rfl, hk⟩ := natLit h3
    have h4 := congrArg (fun x => x[0]?) h2
    simp only [List.getElem?_take, List.getElem?_drop, List.getElem?_cons_zero] at h4
    rw [if_pos (by omega), Nat.add_zero] at h4
    exact ⟨k, h4, hk⟩
  obtain ⟨f, hf⟩ := choose_lt hV
  refine ⟨(List.range 32).map f, ?_, by simp, fun i => ?_⟩
  · apply List.ext_getElem?
    intro i
    by_cases hi : i < 32
    · rw [(hf i hi).1]
      simp [hi]
    · rw [List.getElem?_eq_none (by omega), List.getElem?_eq_none (by simp; omega)]
  · rw [List.getD_eq_getElem?_getD]
    by_cases hi : i < 32
    · simp [hi, (hf i hi).2]
    · rw [List.getElem?_eq_none (by simp; omega)]
      decide
theorem c_names : Tryz.prog.cellsOf 22 = 1 ∧ Tryz.prog.cellsOf 23 = 32 ∧ Tryz.prog.cellsOf 3 = 1 ∧ Tryz.prog.cellsOf 4 = 1 ∧ Tryz.prog.cellsOf 24 = 1 ∧ Tryz.prog.cellsOf 25 = 1 ∧ Tryz.prog.cellsOf 27 = 39 ∧ Tryz.prog.cellsOf 28 = 1 ∧ Tryz.prog.cellsOf 30 = 42 :=
  ⟨by kernel_rfl, by kernel_rfl, by kernel_rfl, by kernel_rfl, by kernel_rfl, by kernel_rfl, by kernel_rfl, by kernel_rfl, by kernel_rfl⟩
/-- a state, opened. -/
theorem open_cpu {fuel : Nat} {cs : List Value} {x : DataW H × List MemPlace} (h : DataW.trod enc Tryz.prog w base spare held fuel 27 cs = some x) (hs : ∀ n ∈ x.1.weights Tryz.prog 27, n ≤ reachBytes) :
    ∃ (c : Mc) (A : Option Addr) (k : Nat), cs = c.cells (.slice A c.out.length k) ∧ c.regs.length = 32 ∧ (∀ i, c.reg i < 18446744073709551616) ∧ c.pc < 18446744073709551616 ∧ Bs w.heap.size w A c.out ∧ c.out.length ≤ 140737488351232 ∧ c.out.length ≤ Rows.uptoBulk x.1 := by
  obtain ⟨xs, m, _, rfl, hl, hn, hf⟩ := DataW.trod_struct Tryz.underlying27 h
  obtain ⟨e1, e2, e3, e4, e5, e6, e7, -, -⟩ := c_names
  rw [e7] at hl
  obtain ⟨y0, y1, y2, y3, y4, y5, y6, y7, rfl⟩ := list8 (show xs.length = 8 from hn)
  have g0 : DataW.trod enc Tryz.prog w base spare held m 22 ((cs.drop 0).take (Tryz.prog.cellsOf 22)) = some y0 := hf 0 _ rfl
  have g1 : DataW.trod enc Tryz.prog w base spare held m 23 ((cs.drop 1).take (Tryz.prog.cellsOf 23)) = some y1 := hf 1 _ rfl
  have g2 : DataW.trod enc Tryz.prog w base spare held m 3 ((cs.drop 33).take (Tryz.prog.cellsOf 3)) = some y2 := hf 2 _ rfl
  have g3 : DataW.trod enc Tryz.prog w base spare held m 4 ((cs.drop 34).take (Tryz.prog.cellsOf 4)) = some y3 := hf 3 _ rfl
  have g4 : DataW.trod enc Tryz.prog w base spare held m 3 ((cs.drop 35).take (Tryz.prog.cellsOf 3)) = some y4 := hf 4 _ rfl
  have g5 : DataW.trod enc Tryz.prog w base spare held m 24 ((cs.drop 36).take (Tryz.prog.cellsOf 24)) = some y5 := hf 5 _ rfl
  have g6 : DataW.trod enc Tryz.prog w base spare held m 25 ((cs.drop 37).take (Tryz.prog.cellsOf 25)) = some y6 := hf 6 _ rfl
  have g7 : DataW.trod enc Tryz.prog w base spare held m 3 ((cs.drop 38).take (Tryz.prog.cellsOf 3)) = some y7 := hf 7 _ rfl
  rw [e1] at g0
  rw [e2] at g1
  rw [e3] at g2 g4 g7
  rw [e4] at g3
  rw [e5] at g5
  rw [e6] at g6
  obtain ⟨z0, h0, _, k0⟩ := DataW.trod_int Tryz.underlying22 g0
  obtain ⟨R, h1, hR, hRs⟩ := open_regs g1
  obtain ⟨z2, h2, _, _⟩ := DataW.trod_int Tryz.underlying3 g2
  obtain ⟨z3, h3, _⟩ := DataW.trod_bool Tryz.underlying4 g3
  obtain ⟨z4, h4, _, _⟩ := DataW.trod_int Tryz.underlying3 g4
  obtain ⟨z5, h5, _, _⟩ := DataW.trod_int Tryz.underlying24 g5
  obtain ⟨A, k, l, h6, hB, hlen⟩ := open_bytes g6 (agg_weights Tryz.underlying27 hs 6 rfl rfl)
  obtain ⟨z7, h7, _, _⟩ := DataW.trod_int Tryz.underlying3 g7
  have hb := bulk_bytes g6 h6
  obtain ⟨p, rfl, hp⟩ := natLit k0
  have hb6 : Rows.uptoBulk y6.1 ≤ Rows.uptoBulkAll ([y0, y1, y2, y3, y4, y5, y6, y7].map (·.1)) := bulk_mem (j := 6) rfl
  have hb7 := bulk_agg ([y0, y1, y2, y3, y4, y5, y6, y7].map (·.1))
  refine ⟨⟨p, R, z2, z3, z4, z5, l, z7⟩, A, k, ?_, hR, hRs, hp, hB, hlen, Nat.le_trans hb (Nat.le_trans hb6 hb7)⟩
  have s0 := take_drop cs 0 1
  have s1 := take_drop cs 1 32
  have s2 := take_drop cs 33 1
  have s3 := take_drop cs 34 1
  have s4 := take_drop cs 35 1
  have s5 := take_drop cs 36 1
  have s6 := take_drop cs 37 1
  have s7 := take_drop cs 38 1
  rw [h0] at s0
  rw [h1] at s1
  rw [h2] at s2
  rw [h3] at s3
  rw [h4] at s4
  rw [h5] at s5
  rw [h6] at s6
  have dn : cs.drop (38 + 1) = [] := List.drop_eq_nil_of_le (by omega)
  rw [h7, dn] at s7
  rw [← List.drop_zero (l := cs), s0, s1, s2, s3, s4, s5, s6, s7]
  simp [Mc.cells, Mc.tail, rV]
theorem open_case {fuel : Nat} {cs : List Value} {x : DataW H × List MemPlace} (h : DataW.trod enc Tryz.prog w base spare held fuel 30 cs = some x) (hs : ∀ n ∈ x.1.weights Tryz.prog 30, n ≤ reachBytes) :
    ∃ (c : Mc) (OA PA IA : Option Addr) (oc pc ic : Nat) (ps : List PgIn) (inp : List UInt8) (N : Int), cs = caseC c OA PA IA oc pc ic ps.length inp.length N ∧ c.regs.length = 32 ∧ (∀ i, c.reg i < 18446744073709551616) ∧ c.pc < 18446744073709551616 ∧
      Bs w.heap.size w OA c.out ∧ c.out.length ≤ 140737488351232 ∧ c.out.length ≤ Rows.uptoBulk x.1 ∧ PgsAt w.heap.size w PA ps ∧ Bs w.heap.size w IA inp ∧ inp.length ≤ 140737488351232 := by
  obtain ⟨xs, m, _, rfl, hl, hn, hf⟩ := DataW.trod_struct Tryz.underlying30 h
  obtain ⟨e1, e2, e3, e4, e5, e6, e7, e8, e9⟩ := c_names
  rw [e9] at hl
  obtain ⟨y0, y1, y2, y3, rfl⟩ := list4 (show xs.length = 4 from hn)
  have g0 : DataW.trod enc Tryz.prog w base spare held m 27 ((cs.drop 0).take (Tryz.prog.cellsOf 27)) = some y0 := hf 0 _ rfl
  have g1 : DataW.trod enc Tryz.prog w base spare held m 28 ((cs.drop 39).take (Tryz.prog.cellsOf 28)) = some y1 := hf 1 _ rfl
  have g2 : DataW.trod enc Tryz.prog w base spare held m 25 ((cs.drop 40).take (Tryz.prog.cellsOf 25)) = some y2 := hf 2 _ rfl
  have g3 : DataW.trod enc Tryz.prog w base spare held m 3 ((cs.drop 41).take (Tryz.prog.cellsOf 3)) = some y3 := hf 3 _ rfl
  rw [e7] at g0
  rw [e8] at g1
  rw [e6] at g2
  rw [e3] at g3
  obtain ⟨c, OA, oc, h0, hl0, hs0, hp0, hO, hol, hob⟩ := open_cpu g0 (agg_weights Tryz.underlying30 hs 0 rfl rfl)
  obtain ⟨PA, pc, ps, h1, hP⟩ := open_pages g1 (agg_weights Tryz.underlying30 hs 1 rfl rfl)
  obtain ⟨IA, ic, inp, h2, hI, hil⟩ := open_bytes g2 (agg_weights Tryz.underlying30 hs 2 rfl rfl)
  obtain ⟨N, h3, _, _⟩ := DataW.trod_int Tryz.underlying3 g3
  have hb6 : Rows.uptoBulk y0.1 ≤ Rows.uptoBulkAll ([y0, y1, y2, y3].map (·.1)) := bulk_mem (j := 0) rfl
  have hb7 := bulk_agg ([y0, y1, y2, y3].map (·.1))
  refine ⟨c, OA, PA, IA, oc, pc, ic, ps, inp, N, ?_, hl0, hs0, hp0, hO, hol, Nat.le_trans hob (Nat.le_trans hb6 hb7), hP, hI, hil⟩
  have s0 := take_drop cs 0 39
  have s1 := take_drop cs 39 1
  have s2 := take_drop cs 40 1
  have s3 := take_drop cs 41 1
  rw [h0] at s0
  rw [h1] at s1
  rw [h2] at s2
  have dn : cs.drop (41 + 1) = [] := List.drop_eq_nil_of_le (by omega)
  rw [h3, dn] at s3
  rw [← List.drop_zero (l := cs), s0, s1, s2, s3]
  simp [caseC]
end
end Go.Proofs.YtemngapfnkokiaaGreatDoor

/- A contract under a condition of its own, of a row that lists a variable; the like witness. -/
namespace Go.Proofs.YtemngapfnkokiaaGreatDoor
open Go Go.ChangeShapes Go.WideShapes Go.ChangeAt Go.RowKit
theorem returnsInHanded_of_cond_and {H : Type} {enc : TypeId × Value → H} {a : Assume} {C : Checked} {os : Os} {f : FuncId} {fn : Func} {s : OpenSpec} {k : (H : Type) → List (DataW H) → Bool} (hk : s.cond = some k) {F : Stop.Interp} {conds : List PathCond} {apart fresh handsOn again : Bool} {X : World → Array Value → Prop}
    (hX : ∀ (w w' : World) (args : Array Value), w.heap = w'.heap → X w args → X w' args)
    (own : ownKnob C.prog.godebug = none) (started : os.Started) (noInit : C.prog.inits.idxOf? f = none) (hfn : C.prog.funcs[f]? = some fn)
    (witness : ∃ (w : World) (tape : Tape) (i : Input), w.os = os ∧ (w.forCall tape i).Shaped C.prog ∧ i.vars = [] ∧ Input.okWide C.prog (w.forCall tape i) .any w.heap.size f i ∧
      ((s.pre enc C.prog fn conds apart (w.forCall tape i).memory i.args ∧ X (w.forCall tape i).memory i.args) ∧ sizedMet enc C.prog fn s apart (w.forCall tape i).memory i.args) ∧ a.holds C.prog (lone (Frame.enter C.prog f i.args .normal) [] (w.forCall tape i)))
    (contract : ∀ (W : World) (base : Nat) (args : Array Value) (ds gs : List (DataW H)) (before : List MemPlace),
      (∀ (j : Nat) t v, fn.params[j]? = some t → args[j]? = some v → Value.okWide C.prog W .any base t v) →
      DataW.Whole enc C.prog fn.params.toList s.vars apart W args.toList ds gs before →
      conds.all (PathCond.test C.prog ⟨fn.params.toList, ds, s.bare.plain.varTypes C.prog, gs⟩) = true → k H (ds ++ gs) = true →
      (DataW.weightsEach C.prog (fn.params.toList ++ s.bare.plain.varTypes C.prog) (ds ++ gs)).all (· ≤ reachBytes) = true → X W args →
      a.holds C.prog (lone (Frame.enter C.prog f args .normal) [] W) →
      Calls C.prog f args W fun e W' => ∃ v, e = .returned v ∧ (s.at F).post enc C.prog fn apart fresh handsOn again W args v W') :
    ReturnsInHanded a C os f .any (fun w args => (s.pre enc C.prog fn conds apart w args ∧ X w args) ∧ sizedMet enc C.prog fn s apart w args) ((s.at F).post enc C.prog fn apart fresh handsOn again) := by
  refine returnsInHanded_of_calls own started noInit witness ?_
  intro w tape i _ _ _ hok hpre hholds
  obtain ⟨_, _, _, fn', hfn', _, _, _, _, hval⟩ := hok
  have e : fn' = fn := Option.some.inj (hfn'.symm.trans hfn)
  subst e
  obtain ⟨⟨hp, hx⟩, hz⟩ := hpre
  obtain ⟨ds, gs, before, hw, hc, hkk⟩ := (OpenSpec.pre_some hk conds apart _ _).1 hp
  have hw' := DataW.Whole.of_heap (w' := w.forCall tape i) (by rfl) hw
  refine (contract (w.forCall tape i) w.heap.size i.args ds gs before hval hw' hc hkk (hz.weights hw) (hX _ _ _ (by rfl) hx) hholds).mono fun e W' ⟨v, he, hp⟩ => ?_
  subst he
  exact ChangeSpec.post_blind hp
/-- the condition met, for the kernel. -/
def condB {H : Type} (enc : TypeId × Value → H) (P : Program) (f : Func) (s : OpenSpec) (k : (H : Type) → List (DataW H) → Bool) (apart : Bool) (w : World) (args : Array Value) (fuel : Nat) : Bool :=
  match DataW.whole enc P w f.params.toList s.vars apart args.toList fuel with
  | some x => k H (x.1 ++ x.2.1)
  | none => false
theorem pre_of_condB {H : Type} {enc : TypeId × Value → H} {P : Program} {f : Func} {s : OpenSpec} {k : (H : Type) → List (DataW H) → Bool} (hk : s.cond = some k) {apart : Bool} {w : World} {args : Array Value} {fuel : Nat} (h : condB enc P f s k apart w args fuel = true) : s.pre enc P f [] apart w args := by
  unfold condB at h
  split at h
  · rename_i x hx
    exact (OpenSpec.pre_some hk [] apart _ _).2 ⟨x.1, x.2.1, x.2.2, DataW.Whole_of_whole hx, rfl, h⟩
  · cases h
theorem witness_cond {H : Type} {enc : TypeId × Value → H} {C : Checked} {os : Os} {f : FuncId} {fn : Func} {s : OpenSpec} {k : (H : Type) → List (DataW H) → Bool} (hk : s.cond = some k) {apart : Bool} {X : World → Array Value → Prop} (modest : Bool) (w0 : World) (args : Array Value) (fuel : Nat) (hos : w0.os = os)
    (hsh : (w0.forCall (fun _ _ => 0) ⟨#[], args, []⟩).Shaped C.prog)
    (hok : Input.okWideB C.prog (w0.forCall (fun _ _ => 0) ⟨#[], args, []⟩) f ⟨#[], args, []⟩ = true)
    (hpre : condB enc C.prog fn s k apart (w0.forCall (fun _ _ => 0) ⟨#[], args, []⟩).memory args fuel = true)
    (hsz : s.bare.sizedB enc C.prog fn apart (w0.forCall (fun _ _ => 0) ⟨#[], args, []⟩).memory args fuel = true)
    (hx : X (w0.forCall (fun _ _ => 0) ⟨#[], args, []⟩).memory args) :
    ∃ (w : World) (tape : Tape) (i : Input), w.os = os ∧ (w.forCall tape i).Shaped C.prog ∧ i.vars = [] ∧ Input.okWide C.prog (w.forCall tape i) .any w.heap.size f i ∧
      ((s.pre enc C.prog fn [] apart (w.forCall tape i).memory i.args ∧ X (w.forCall tape i).memory i.args) ∧ sizedMet enc C.prog fn s apart (w.forCall tape i).memory i.args) ∧ ({ modest := modest } : Assume).holds C.prog (lone (Frame.enter C.prog f i.args .normal) [] (w.forCall tape i)) :=
  ⟨w0, fun _ _ => 0, ⟨#[], args, []⟩, hos, hsh, (Input.okWide_of_okWideB (base := 0) hok).1, (Input.okWide_of_okWideB hok).2, ⟨⟨pre_of_condB hk hpre, hx⟩, sizedMet_of_sizedB hsz⟩, by
    simp only [Assume.holds]
    exact ⟨by simp, by simp, fun _ => Modest.zero, by simp, by simp⟩⟩
end Go.Proofs.YtemngapfnkokiaaGreatDoor

/- What the tied condition gives: the operations' rows. -/
namespace Go.Proofs.YtemngapfnkokiaaGreatDoor
open Go Go.ChangeShapes Go.WideShapes Go.ChangeAt Go.RowKit Go.Pat Go.Joins Go.WideMaps Go.WideElems
theorem gRows : Tryz.prog.globalNamed "patina/rv.rows" = some 0 := by kernel_rfl
theorem tRows : (Tryz.prog.globals[0]?).map (·.type) = some 117 := by kernel_rfl
def rowD (op : Nat) : DataW Unit := .agg [.lit (.int .u8 ((rvRow op).1 : Int)), .lit (.int .u32 ((rvRow op).2.1 : Int)), .lit (.int .u32 ((rvRow op).2.2.1 : Int)), .lit (.int .u32 ((rvRow op).2.2.2 : Int))]
theorem rows_data : (Rows.laid_patina_rv_rows : DataW Unit) = .agg ((List.range 66).map rowD) := by kernel_rfl
theorem cell_of_take {l : List Value} {p j : Nat} {a : Value} (hj : j < 4) (h : (((l.drop p).take 4).drop j).take 1 = [a]) : l[p + j]? = some a := by
  have h1 := congrArg (fun x => x[0]?) h
  simp only [List.getElem?_take, List.getElem?_drop, List.getElem?_cons_zero] at h1
  rw [if_pos (by omega), if_pos (by omega), Nat.add_zero] at h1
  exact h1
theorem c_u8 : Tryz.prog.cellsOf 5 = 1 := by kernel_rfl
theorem c_u32 : Tryz.prog.cellsOf 56 = 1 := by kernel_rfl
theorem c_row : Tryz.prog.cellsOf 116 = 4 := by kernel_rfl
theorem rows_trod {W : World} {cs : Array Value} {x : DataW Unit × List MemPlace} {enc : TypeId × Value → Unit} {base : Nat} {spare : Nat → Bool} {held : Bool} {fuel : Nat} (hv : W.var? Tryz.prog "patina/rv.rows" = some cs)
    (hd : DataW.trod enc Tryz.prog W base spare held fuel 117 cs.toList = some x) (hx : x.1 = Rows.laid_patina_rv_rows) : RvRows W := by
  rw [rows_data] at hx
  obtain ⟨xs, m1, rfl, rfl, hlen, hn, hel⟩ := DataW.trod_array Tryz.underlying117 hd
  simp only [DataW.agg.injEq] at hx
  have key : ∀ op, op < 66 → W.rangeAt 0 (op * 4) [.int .u8 ((rvRow op).1 : Int), .int .u32 ((rvRow op).2.1 : Int), .int .u32 ((rvRow op).2.2.1 : Int), .int .u32 ((rvRow op).2.2.2 : Int)] := by
    intro op hop
    have h0 := hel op hop
    have h1 : xs[op]?.map (·.1) = some (rowD op) := by rw [← List.getElem?_map, hx, List.getElem?_map, List.getElem?_range hop]; rfl
    obtain ⟨y, hy, hy2⟩ := Option.map_eq_some_iff.1 h1
    rw [hy, c_row] at h0
    obtain ⟨y0, y1, y2, y3, n, rfl, _, q0, q1, q2, q3⟩ := trod_struct4 Tryz.underlying116 h0
    simp only [rowD, DataW.agg.injEq, List.cons.injEq, and_true] at hy2
    obtain ⟨k0, e0, rfl, _⟩ := DataW.trod_int Tryz.underlying5 q0
    obtain ⟨k1, e1, rfl, _⟩ := DataW.trod_int Tryz.underlying56 q1
    obtain ⟨k2, e2, rfl, _⟩ := DataW.trod_int Tryz.underlying56 q2
    obtain ⟨k3, e3, rfl, _⟩ := DataW.trod_int Tryz.underlying56 q3
    obtain ⟨z0, z1, z2, z3⟩ := hy2
    have w0 := Lit.int.inj (DataW.lit.inj z0)
    have w1 := Lit.int.inj (DataW.lit.inj z1)
    have w2 := Lit.int.inj (DataW.lit.inj z2)
    have w3 := Lit.int.inj (DataW.lit.inj z3)
    simp only [c_u8, c_u32] at e0 e1 e2 e3
    have d0 := cell_of_take (p := op * 4) (j := 0) (by omega) e0
    have d1 := cell_of_take (p := op * 4) (j := 1) (by omega) e1
    have d2 := cell_of_take (p := op * 4) (j := 2) (by omega) e2
    have d3 := cell_of_take (p := op * 4) (j := 3) (by omega) e3
    rw [w0.2] at d0
    rw [w1.2] at d1
    rw [w2.2] at d2
    rw [w3.2] at d3
    intro j v hj
    have hc := World.var?_cell gRows hv (op * 4 + j)
    rw [← Array.getElem?_toList] at hc
    match j, hj with
    | 0, hj => rw [hc, d0]; exact hj
    | 1, hj => rw [hc, d1]; exact hj
    | 2, hj => rw [hc, d2]; exact hj
    | 3, hj => rw [hc, d3]; exact hj
  exact ⟨World.block_lt_of_cell? W ⟨0, _, none⟩ (key 0 (by omega) 0 _ rfl), key⟩
theorem rvRows_laid {W : World} (h : laidMetH Tryz.prog [("patina/rv.rows", Rows.laid_patina_rv_rows)] W) : RvRows W := by
  rw [MakeChecks.laidMetH_plain _ _ _ (by kernel_rfl)] at h
  obtain ⟨ps, ⟨g1, t1, cs1, f1, p1, q1, hg1, ht1, hv1, hd1, _, _⟩, _, _⟩ := h
  obtain rfl := Option.some.inj (gRows.symm.trans hg1)
  obtain rfl := Option.some.inj (tRows.symm.trans ht1)
  exact rows_trod hv1 hd1 rfl
end Go.Proofs.YtemngapfnkokiaaGreatDoor
