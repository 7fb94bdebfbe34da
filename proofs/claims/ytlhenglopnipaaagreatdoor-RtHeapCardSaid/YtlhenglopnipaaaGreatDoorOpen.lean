/- The arguments opened: byte slices, pages. -/
import Derived.Test.YtlhenglopnipaaaGreatDoorMemTop
import Derived.ProofKit
import Derived.SizedLaws
import Derived.Deep.Slices
import Derived.Deep.Fields
import Derived.Lib.SmallJoins
namespace Go.Pat
open Go Go.RowKit Go.Joins Go.ChangeShapes Go.WideShapes Go.Deep

section
variable {H : Type} {enc : TypeId × Value → H} {P : Program} {w : World} {base : Nat} {spare : Nat → Bool} {held : Bool}
theorem open_slice_fields {t e : TypeId} {fs : Array Field} {fuel : Nat} {cs : List Value} {x : DataW H × List MemPlace} (ht : P.underlying t = some (.slice e)) (he : P.underlying e = some (.struct fs))
    (hone : oneCellFields P fs = true) (hC : P.cellsOf e = fs.size) (h : DataW.trod enc P w base spare held fuel t cs = some x) :
    (cs = [.slice none 0 0] ∧ x = (.nil, [])) ∨
    ∃ (a : Addr) (len cap m : Nat) (D : Nat → DataW H) (Pl : Nat → List MemPlace), cs = [.slice (some a) len cap] ∧ base ≤ a.block ∧ len ≤ cap ∧ cap ≤ maxLen ∧ m = (if spare a.block then cap else len) ∧
      x = (.slice ((List.range len).map D) ((List.range (m - len)).map fun j => D (len + j)), MemPlace.row a (m * fs.size) ++ (List.range m).flatMap Pl) ∧
      ∀ i, i < m → ∃ (ys : List (DataW H × List MemPlace)) (n : Nat), D i = .agg (ys.map (·.1)) ∧ Pl i = ys.flatMap (·.2) ∧ ys.length = fs.size ∧
        ∀ (j : Nat) (f : Field), fs[j]? = some f → ∃ (v : Value) (y : DataW H × List MemPlace), w.cell? (a.add (i * fs.size + j)) = some v ∧ ys[j]? = some y ∧ DataW.trod enc P w base spare held n f.type [v] = some y := by
  rcases open_slice ht h with h0 | ⟨a, len, cap, m, n, D, Pl, hcs, hb, hl, hm, hmm, hx, hi⟩
  · exact .inl h0
  · refine .inr ⟨a, len, cap, m, D, Pl, hcs, hb, hl, hm, hmm, by rw [hC] at hx; exact hx, fun i him => ?_⟩
    obtain ⟨cs', hc, ht'⟩ := hi i him
    rw [hC] at hc
    obtain ⟨ys, n', hn', hy, hlen, hyl, hf⟩ := DataW.trod_struct he ht'
    obtain ⟨_, hcl, hat⟩ := World.cells?_some hc
    simp only [Prod.mk.injEq] at hy
    refine ⟨ys, n', hy.1, hy.2, hyl, fun j f hj => ?_⟩
    obtain ⟨ho, hk⟩ := hone_of hone j f hj
    have hjl : j < fs.size := (Array.getElem?_eq_some_iff.1 hj).1
    have hcell := hat j hjl
    have hv : cs'[j]? = some (cs'[j]'(by omega)) := List.getElem?_eq_getElem (by omega)
    have h1 := hf j f hj
    rw [ho, hk] at h1
    have hone' : (cs'.drop j).take 1 = [cs'[j]'(by omega)] := by
      rw [List.drop_eq_getElem_cons (by omega)]
      rfl
    rw [hone'] at h1
    have hys : ys[j]? = some (ys[j]'(by omega)) := List.getElem?_eq_getElem (by omega)
    refine ⟨_, _, ?_, hys, h1.trans hys⟩
    rw [← Go.Deep.add_add, hcell, hv]

theorem weightsAll_mem {e : TypeId} {ds : List (DataW H)} {d : DataW H} (hd : d ∈ ds) {n : Nat} (hn : n ∈ d.weights P e) : n ∈ DataW.weightsAll P e ds := by
  induction ds with
  | nil => cases hd
  | cons c r ih =>
    simp only [DataW.weightsAll, List.mem_append]
    rcases List.mem_cons.1 hd with rfl | h
    · exact .inl hn
    · exact .inr (ih h)
theorem spot_of_cell {a : Addr} {v : Value} (h : w.cell? a = some v) : a.spot = none := by
  unfold World.cell? at h
  split at h
  · split at h
    · cases h
    · rename_i hs; simpa using hs
  · cases h
theorem block_of_cell {a : Addr} {v : Value} (h : w.cell? a = some v) : a.block < w.heap.size := by
  unfold World.cell? at h
  split at h
  · exact lt_of_block ‹_›
  · cases h
theorem addr_of_cell {a : Addr} {i : Nat} {v v0 : Value} (h : w.cell? (a.add i) = some v) (h0 : w.cell? (a.add 0) = some v0) : a = ⟨a.block, a.off, none⟩ ∧ w.cell? ⟨a.block, a.off + i, none⟩ = some v := by
  have hs : a.spot = none := spot_of_cell h0
  have ha : a = ⟨a.block, a.off, none⟩ := by cases a; simp_all
  refine ⟨ha, ?_⟩
  rw [← h]
  unfold Addr.add
  split
  · rename_i h0; subst h0; rw [Nat.add_zero, ← ha]
  · rfl
end
section
variable {H : Type} {enc : TypeId × Value → H} {P : Program}
/-- all arguments read as they did: below the old size nothing has turned. -/
theorem trodAll_stay (hl : laidOutB P = true) {W W' : World} {sp : Nat → Bool} (hb : Below W.heap.size W W') : ∀ (ts : List TypeId) (vs : List Value) (ds : List (DataW H)) (ps : List MemPlace),
    (∀ t ∈ ts, P.readableRec t = true ∧ t < P.types.size) → DataW.TrodAll enc P W 0 (fun _ => true) true ts vs ds ps → (∀ x ∈ ps, x.block < W.heap.size) → (∀ x ∈ ps, sp x.block = true) → DataW.TrodAll enc P W' 0 sp true ts vs ds ps
  | [], vs, ds, ps, _, h, _, _ => by
    obtain ⟨rfl, rfl, rfl⟩ := trodAll_nil h
    exact trodAll_mk0
  | t :: ts, vs, ds, ps, ht, h, hlt, hsp => by
    obtain ⟨v, vs', d, ds', a, b, rfl, rfl, rfl, h1, h2⟩ := trodAll_cons h
    exact ⟨a, b, WideElems.Trod_stays hl (ht t (by simp)).1 (ht t (by simp)).2 h1 (fun x hx => hb.same (hlt x (List.mem_append_left _ hx))) (fun x hx => hsp x (List.mem_append_left _ hx)),
      trodAll_stay hl hb ts vs' ds' b (fun t' h' => ht t' (by simp [h'])) h2 (fun x hx => hlt x (List.mem_append_right _ hx)) (fun x hx => hsp x (List.mem_append_right _ hx)), rfl⟩

/-- the row's closing where the call has turned nothing that was there. -/
theorem post_below {f : Func} {s : ChangeSpec} {apart fresh handsOn : Bool} {W W' : World} {args : Array Value} {v : Value} {ds : List (DataW H)} {before : List MemPlace}
    (hW : DataW.Whole enc P f.params.toList s.vars apart W args.toList ds [] before) (hA : DataW.TrodAll enc P W 0 (fun _ => true) true f.params.toList args.toList ds before)
    (hl : laidOutB P = true) (hr : ∀ t ∈ f.params.toList, P.readableRec t = true ∧ t < P.types.size) (hb : Below W.heap.size W W')
    (hv : s.vars = []) (hargs : (s.fn H (ds ++ [])).args = ds) (hvars : (s.fn H (ds ++ [])).vars = [])
    (hres : ∀ (b : Nat) (sp : Nat → Bool) (hd : Bool), DataW.TrodAll enc P W' b sp hd f.resultTypes.toList (v.resultList f.resultTypes.size) (s.fn H (ds ++ [])).results []) :
    s.post enc P f apart fresh handsOn false W args v W' := by
  have hold : ∀ p ∈ before, (fun b => decide (b < W.heap.size)) p.block = true := fun p hp => by simpa using hW.lt p hp
  refine ⟨ds, [], before, [], before, [], hW, hres _ _ _, ?_, ?_, World.keptBut_mono (fun p hp => ⟨hp, .inr (.inl hp)⟩) (hb.frame (· ∈ before)), fun h => by cases h⟩
  · rw [hargs]; exact trodAll_stay hl hb _ _ _ _ hr hA (fun x hx => hW.lt x hx) hold
  · rw [hv, hvars]; rfl
end
end Go.Pat
namespace Go.Proofs
open Go Go.RowKit Go.Pat Go.Joins Go.ChangeShapes Go.WideShapes Go.Deep
instance : Inhabited PgIn := ⟨⟨0, 0, none, 0, []⟩⟩
section
variable {H : Type} {enc : TypeId × Value → H} {w : World} {base : Nat} {spare : Nat → Bool} {held : Bool}
theorem Tryz_cells8 : Tryz.prog.cellsOf 5 = 1 := by kernel_rfl
theorem Tryz_bytes8 : Tryz.prog.bytesOf 5 = 1 := by kernel_rfl
theorem Tryz_cellsP : Tryz.prog.cellsOf 112 = 3 := by kernel_rfl
theorem Tryz_bytesP : Tryz.prog.bytesOf 112 = 40 := by kernel_rfl

theorem open_bytes {fuel : Nat} {cs : List Value} {x : DataW H × List MemPlace} (h : DataW.trod enc Tryz.prog w base spare held fuel 35 cs = some x) (hs : ∀ n ∈ x.1.weights Tryz.prog 35, n ≤ reachBytes) :
    ∃ (A : Option Addr) (cap : Nat) (l : List UInt8), cs = [.slice A l.length cap] ∧ Bs w.heap.size w A l ∧ l.length ≤ 140737488351232 := by
  rcases open_slice1 Tryz.underlying35 Tryz_cells8 h with ⟨rfl, _⟩ | ⟨a, len, cap, m, n, V, D, Pl, rfl, hb, hl, hm, hmm, rfl, hx⟩
  · exact ⟨none, 0, [], rfl, .nil, by simp⟩
  · have hlm : len ≤ m := by rw [hmm]; split <;> omega
    have hV : ∀ i, i < len → ∃ b : UInt8, V i = .int .u8 (b.toNat : Int) := fun i hi => by
      obtain ⟨z, h1, _, h3⟩ := DataW.trod_int Tryz.underlying5 (hx i (by omega)).2
      simp only [List.cons.injEq, and_true] at h1
      have hz : 0 ≤ z ∧ z ≤ 255 := by have := h3; simp [Lit.wf] at this; exact this
      exact ⟨UInt8.ofNat z.toNat, by rw [h1, UInt8.toNat_ofNat']; congr 1; omega⟩
    obtain ⟨B, hB⟩ := choose_lt hV
    refine ⟨some a, cap, (List.range len).map B, by simp, fun i hi => ?_, ?_⟩
    · have hi' : i < len := by simpa [bcells] using hi
      obtain ⟨h1, h2⟩ := addr_of_cell (hx i (by omega)).1 (hx 0 (by omega)).1
      refine ⟨a.block, a.off, by rw [← h1], block_of_cell (a := ⟨a.block, a.off + i, none⟩) h2, ?_⟩
      rw [h2, hB i hi']
      simp [bcells, bval]
    · have := hs ((((List.range len).map D).length + ((List.range (m - len)).map fun j => D (len + j)).length) * Tryz.prog.bytesOf 5) (by simp [DataW.weights, Tryz.underlying35])
      rw [Tryz_bytes8] at this
      simp only [List.length_map, List.length_range, reachBytes] at this ⊢
      omega

/- the elements' own weights. -/
theorem slice_weights {P : Program} {t e : TypeId} (ht : P.underlying t = some (.slice e)) {elems sp : List (DataW H)} (hs : ∀ n ∈ (DataW.slice elems sp).weights P t, n ≤ reachBytes) : ((elems.length + sp.length) * P.bytesOf e ≤ reachBytes) ∧ ∀ d ∈ elems, ∀ n ∈ d.weights P e, n ≤ reachBytes := by
  refine ⟨hs _ (by simp [DataW.weights, ht]), fun d hd n hn => hs n ?_⟩
  simp only [DataW.weights, ht, List.mem_cons, List.mem_append]
  exact .inr (.inl (weightsAll_mem hd hn))
theorem agg_weights {P : Program} {t : TypeId} {fs : Array Field} (ht : P.underlying t = some (.struct fs)) {parts : List (DataW H)} (hs : ∀ n ∈ (DataW.agg parts).weights P t, n ≤ reachBytes) (j : Nat) {f : Field} {d : DataW H} (hf : fs[j]? = some f) (hd : parts[j]? = some d) : ∀ n ∈ d.weights P f.type, n ≤ reachBytes := by
  intro n hn
  refine hs n ?_
  simp only [DataW.weights, ht]
  exact DataW.weights_mem_each (j := j) (by simp [hf]) hd n hn

theorem open_pages {fuel : Nat} {cs : List Value} {x : DataW H × List MemPlace} (h : DataW.trod enc Tryz.prog w base spare held fuel 69 cs = some x) (hs : ∀ n ∈ x.1.weights Tryz.prog 69, n ≤ reachBytes) :
    ∃ (A : Option Addr) (cap : Nat) (ps : List PgIn), cs = [.slice A ps.length cap] ∧ PgsAt w.heap.size w A ps := by
  rcases open_slice_fields Tryz.underlying69 Tryz.underlying112 (by kernel_rfl) Tryz_cellsP h with ⟨rfl, _⟩ | ⟨a, len, cap, m, D, Pl, rfl, hb, hl, hm, hmm, rfl, hx⟩
  · exact ⟨none, 0, [], rfl, fun i hi => absurd hi (by simp), by simp, by simp, by simp⟩
  · have hlm : len ≤ m := by rw [hmm]; split <;> omega
    obtain ⟨hw1, hw2⟩ := slice_weights Tryz.underlying69 hs
    rw [Tryz_bytesP] at hw1
    simp only [List.length_map, List.length_range, reachBytes] at hw1
    have hV : ∀ i, i < len → ∃ p : PgIn, w.cell? (a.add (i * 3)) = some (.int .u64 (p.base : Int)) ∧ w.cell? (a.add (i * 3 + 1)) = some (.int .i64 p.perm) ∧ w.cell? (a.add (i * 3 + 2)) = some (.slice p.A p.data.length p.cap) ∧
        Bs w.heap.size w p.A p.data ∧ p.base < 18446744073709551616 ∧ p.data.length ≤ 140737488351232 := fun i hi => by
      obtain ⟨ys, n, hD, _, hlen, hf⟩ := hx i (by omega)
      obtain ⟨v0, y0, c0, e0, t0⟩ := hf 0 _ rfl
      obtain ⟨v1, y1, c1, e1, t1⟩ := hf 1 _ rfl
      obtain ⟨v2, y2, c2, e2, t2⟩ := hf 2 _ rfl
      obtain ⟨z0, h0, _, k0⟩ := DataW.trod_int Tryz.underlying32 t0
      obtain ⟨z1, h1, _, k1⟩ := DataW.trod_int Tryz.underlying3 t1
      have hz : 0 ≤ z0 ∧ z0 ≤ 18446744073709551615 := by have := k0; simp [Lit.wf] at this; exact this
      have hDi := hw2 (D i) (List.mem_map.2 ⟨i, List.mem_range.2 hi, rfl⟩)
      rw [hD] at hDi
      obtain ⟨A, c, l, h2, hB, hl2⟩ := open_bytes t2 (agg_weights Tryz.underlying112 hDi 2 rfl (by simp [e2]))
      simp only [List.cons.injEq, and_true] at h0 h1 h2
      subst h0 h1 h2
      exact ⟨⟨z0.toNat, z1, A, c, l⟩, by rw [show ((z0.toNat : Nat) : Int) = z0 by omega]; exact c0, c1, c2, hB, by show z0.toNat < _; omega, hl2⟩
    obtain ⟨p, hp⟩ := choose_lt hV
    refine ⟨some a, cap, (List.range len).map p, by simp, fun i hi => ?_, ?_, ?_, ?_⟩
    · have hi' : i < len := by simpa using hi
      obtain ⟨q0, q1, q2, _⟩ := hp i hi'
      obtain ⟨r0, _, _, _⟩ := hp 0 (by omega)
      rw [Nat.zero_mul] at r0
      obtain ⟨h1, h2⟩ := addr_of_cell q0 r0
      refine ⟨a.block, a.off, by rw [← h1], block_of_cell (a := ⟨a.block, a.off + i * 3, none⟩) h2, ?_, ?_, ?_⟩
      · rw [h2]; simp
      · rw [Nat.add_assoc, (addr_of_cell q1 r0).2]; simp
      · rw [Nat.add_assoc, (addr_of_cell q2 r0).2]; simp
    · intro q hq
      obtain ⟨i, hi, rfl⟩ := List.mem_map.1 hq
      exact (hp i (List.mem_range.1 hi)).2.2.2.1
    · intro q hq
      obtain ⟨i, hi, rfl⟩ := List.mem_map.1 hq
      exact (hp i (List.mem_range.1 hi)).2.2.2.2
    · simp only [List.length_map, List.length_range]; omega
end
end Go.Proofs
