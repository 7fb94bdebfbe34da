/- maps.Keys over the map of a memory: the function value that it hands back gives the pages' bases, each once, in some order. Lines of the kit's worked walks at the dump (GgKeys, GgStops, GgCollect), turned to this map. -/
import Derived.Test.YtemngapfnkokiaaGreatDoorProg
import Derived.Test.YtemngapfnkokiaaGreatDoorMemBase
import Derived.RangeFuncStops
import Derived.RangeFuncMany
import Derived.RangeFuncLeaves
import Derived.Sort.MapsRangeIn
import Derived.Sort.KeysCollected
import Derived.Lib.SlKeysI
import Derived.WalkKit
import Derived.OwnWalkIn
import Derived.TacticsInMore
import Derived.RegionIn
import Derived.LoopNIn
import Derived.LoopIn
import Derived.Shelf.Abstract
import Derived.Test.YtemngapfnkokiaaGreatDoorSo2
import Derived.RangeFuncBox
import Derived.RangeFuncWrites
import Derived.RangeFuncOne
import Derived.RangeFuncBound
import Derived.Maps.AppendAt
import Derived.Sort.OwnSorted
import Derived.RangeFuncKeeps
import Derived.RangeFuncNested
import Derived.Lib.Hide
namespace Go.Pat
open Go Go.RowKit Go.Maps Go.Sort Go.Shelf Go.Proofs


abbrev encU : Int → Value := Value.int .u64
/-- how an entry of the map reads: as nothing that tells. -/
def frR (_ : Value) : Option (DataW Unit × List MemPlace) := some (.lit (.bool true), [])
def bases (fs : List Fr) : List Int := fs.map (fun f => (f.base : Int))
/-- what the map reads as: as many entries as there are pages, a key for each base. -/
structure DatM (fs : List Fr) (D : DataW Unit) : Prop where
  size : Maps.size D = fs.length
  has : ∀ x : Int, Maps.has D (.int .u64 x) = true ↔ x ∈ bases fs

theorem Tryz_key_u64 : Keyed Go.Proofs.Tryz.prog 22 := int_keyed Tryz_und_u64

theorem rd_ent (f : Fr) (i : Nat) (h : f.base < 281474976710656) : Go.WideElems.rd Go.Proofs.Tryz.prog 22 frR (f.ent i) = some (.int .u64 f.base, .lit (.bool true)) := by
  have hk : keyOf Go.Proofs.Tryz.prog 22 (.int .u64 (f.base : Int)) = some (.int .u64 f.base) := Maps.keyOf_int_mk Tryz_und_u64 (by simp only [Lit.wf, show IntKind.u64.min = 0 from rfl, show IntKind.u64.max = 18446744073709551615 from rfl, Bool.and_eq_true, decide_eq_true_eq]; omega)
  simp [Go.WideElems.rd, Fr.ent, frR, hk]

theorem mem_ents : ∀ {fs : List Fr} {j : Nat} {x : MapEntry}, x ∈ ents j fs → ∃ f ∈ fs, ∃ i, x = f.ent i ∧ j ≤ i ∧ i < j + fs.length
  | [], _, _, h => by simp [ents] at h
  | f :: fs, j, x, h => by
    rcases List.mem_cons.1 h with rfl | h
    · exact ⟨f, by simp, j, rfl, Nat.le_refl _, by simp⟩
    · obtain ⟨g, hg, i, h1, h2, h3⟩ := mem_ents h
      exact ⟨g, by simp [hg], i, h1, by omega, by simp; omega⟩

theorem ents_born : ∀ (fs : List Fr) (j : Nat), (ents j fs).map (·.born) = List.range' j fs.length
  | [], _ => rfl
  | f :: fs, j => by simp [ents, Fr.ent, ents_born fs (j + 1), List.range'_succ]
theorem ents_key : ∀ (fs : List Fr) (j : Nat), (ents j fs).map (·.key) = fs.map (fun f => Value.int .u64 f.base)
  | [], _ => rfl
  | f :: fs, j => by simp [ents, Fr.ent, ents_key fs (j + 1)]

theorem ent_mem : ∀ (fs : List Fr) (j n : Nat) (h : n < fs.length), fs[n].ent (j + n) ∈ ents j fs
  | [], _, _, h => by simp at h
  | f :: fs, j, 0, _ => by simp [ents]
  | f :: fs, j, n + 1, h => by
    have := ent_mem fs (j + 1) n (by simpa using h)
    simp only [ents, List.getElem_cons_succ]
    exact List.mem_cons_of_mem _ (by rw [show j + (n + 1) = j + 1 + n by omega]; exact this)

section
variable {w : World} {mb : Nat} {fs : List Fr}

theorem nodup_bases (h : (fs.map (·.base)).Nodup) : (bases fs).Nodup := by
  unfold bases
  rw [show (fun f : Fr => (f.base : Int)) = (fun n : Nat => (n : Int)) ∘ (·.base) from rfl, ← List.map_map]
  exact List.Pairwise.map _ (fun a b hab e => hab (by omega)) h

theorem owns_map (hm : w.heap[mb]? = some (.map (ents 0 fs).toArray fs.length)) (hlen : fs.length ≤ maxLen) (hk : (fs.map (·.base)).Nodup) (hs : ∀ f ∈ fs, f.base < 281474976710656) :
    ∃ D, w.ownsMap Go.Proofs.Tryz.prog 22 frR mb fs.length D ∧ DatM fs D := by
  refine ⟨_, ⟨_, _, hm, ⟨by simpa [ents_length] using hlen, ?_, ?_⟩, by simp [ents_length], rfl⟩, ⟨?_, ?_⟩⟩
  · rw [MapKept.stamped_iff]
    refine ⟨?_, ?_, ?_⟩
    · intro x hx
      obtain ⟨f, _, i, rfl, _, h3⟩ := mem_ents (by simpa using hx)
      simpa [Fr.ent] using h3
    · rw [show ((ents 0 fs).toArray).toList = ents 0 fs from rfl, ents_born]
      exact List.nodup_range'
    · rw [show ((ents 0 fs).toArray).toList = ents 0 fs from rfl]
      have h1 : ((ents 0 fs).map (·.key)).Nodup := by
        rw [ents_key]
        rw [show (fun f : Fr => Value.int .u64 (f.base : Int)) = (fun n : Nat => Value.int .u64 (n : Int)) ∘ (·.base) from rfl, ← List.map_map]
        exact List.Pairwise.map _ (fun a b hab e => hab (by have := (Value.int.inj e).2; omega)) hk
      exact List.pairwise_map.1 h1
  · intro x hx
    obtain ⟨f, hf, i, rfl, _, _⟩ := mem_ents (by simpa using hx)
    exact ⟨_, rd_ent f i (hs f hf)⟩
  · simp [Maps.size, length_sorted, ents_length]
  · intro x
    rw [has_eq, List.any_eq_true]
    constructor
    · rintro ⟨p, hp, hsame⟩
      obtain ⟨e, he, rfl⟩ := List.mem_map.1 (mem_sorted.1 hp)
      obtain ⟨f, hf, i, rfl, _, _⟩ := mem_ents (by simpa using he)
      rw [Go.WideElems.rg_of (rd_ent f i (hs f hf))] at hsame
      have : (f.base : Int) = x := by simpa [Lit.sameKey] using hsame
      exact this ▸ List.mem_map.2 ⟨f, hf, rfl⟩
    · intro hx
      obtain ⟨f, hf, rfl⟩ := List.mem_map.1 hx
      obtain ⟨n, hn, rfl⟩ := List.getElem_of_mem hf
      refine ⟨_, mem_sorted.2 (List.mem_map.2 ⟨fs[n].ent n, by simpa using ent_mem fs 0 n hn, rfl⟩), ?_⟩
      rw [Go.WideElems.rg_of (rd_ent _ n (hs _ hf))]
      simp [Lit.sameKey]
end

/-- the keys met so far: none twice; those of the map that are no longer to come. -/
def KMet (fs : List Fr) (left : Lit → Bool) (ss : List Int) : Prop := ss.Nodup ∧ ∀ x, x ∈ ss ↔ (x ∈ bases fs ∧ left (.int .u64 x) = false)

theorem KMet.start {fs : List Fr} {D : DataW Unit} (hD : DatM fs D) : KMet fs (Maps.has D) [] :=
  ⟨List.nodup_nil, fun x => by
    have := hD.has x
    constructor
    · intro h; cases h
    · rintro ⟨h1, h2⟩; rw [this.2 h1] at h2; cases h2⟩
theorem KMet.step {fs : List Fr} {D : DataW Unit} {left : Lit → Bool} {ss : List Int} (hD : DatM fs D) (h : KMet fs left ss) {x : Int} {y : DataW Unit} (hlk : left (.int .u64 x) = true) (hat : ∀ zd, D.atKey (.int .u64 x) zd = y) :
    KMet fs (fun z => left z && !z.sameKey (.int .u64 x)) (ss ++ [x]) := by
  have hhas : x ∈ bases fs := (hD.has x).1 (has_true_of_atKey hat)
  have hnew : x ∉ ss := fun hx => by have := ((h.2 x).1 hx).2; rw [hlk] at this; cases this
  refine ⟨List.nodup_append.2 ⟨h.1, by simp, fun a ha b hb => by simp at hb; subst hb; exact fun e => hnew (e ▸ ha)⟩, fun y => ?_⟩
  by_cases hy : y = x
  · subst hy; simp [hhas, Lit.sameKey]
  · simp [h.2 y, hy, Lit.sameKey]
theorem KMet.perm {fs : List Fr} {left : Lit → Bool} {ss : List Int} (h : KMet fs left ss) (hk : (fs.map (·.base)).Nodup) (hl : ∀ kl, left kl = false) : ss.Perm (bases fs) :=
  (List.perm_ext_iff_of_nodup h.1 (nodup_bases hk)).2 fun x => by rw [h.2 x, hl]; simp

set_option maxRecDepth 100000 in
set_option maxHeartbeats 1000000 in
/-- the iterator that maps.Keys hands back. -/
theorem keysIt_in (n : Nat) (hn : 1 ≤ n) (l Bm mb : Nat) (fs : List Fr) (J Jx : List Int → World → Prop) (hlen : fs.length ≤ maxLen) (hk : (fs.map (·.base)).Nodup) (hs : ∀ f ∈ fs, f.base < 281474976710656)
    (hY : ∀ pre x W, J pre W → pre.length < fs.length → YieldAt Fence.wide (n - 1) Go.Proofs.Tryz.prog l #[encU x] W fun e W' =>
      (e = .returned (.bool true) ∧ J (pre ++ [x]) W' ∧ KeepsWalks W W') ∨ (e = .returned (.bool false) ∧ Jx (pre ++ [x]) W'))
    (W : World) (hJ : AbidesFrom W.heap.size J) (hm : W.cell? ⟨Bm, 0, none⟩ = some (.map (some mb))) (hmap : W.heap[mb]? = some (.map (ents 0 fs).toArray fs.length)) (h0 : J [] W) :
    CallsIn Fence.wide n Go.Proofs.Tryz.prog 84 #[.func (.yield l) #[] #[], .pointer (some ⟨Bm, 0, none⟩)] W fun e W' => (∃ v, e = .returned v) ∧
      ((∃ ss : List Int, ss.Perm (bases fs) ∧ J ss W') ∨ (∃ pre : List Int, True ∧ Jx pre W')) := by
  have hf : Fence.wide.fn 84 := trivial
  obtain ⟨D, hown, hD⟩ := owns_map hmap hlen hk hs
  have hsz := hD.size
  refine callsIn_of_wp Go.Proofs.Tryz.func84 rfl hf ?_ rfl
  simp only [Go.Proofs.Tryz.ntmps84, List.size_toArray, List.length_cons, List.length_nil, Nat.reduceAdd, Nat.reduceSub, Array.replicate_succ, Array.replicate_zero, List.push_toArray, List.append_toArray, List.nil_append, List.cons_append]
  gi_wp2_with (first
    | (gi_at_range; refine wpListIn_range_own _ rfl _ 68 rfl 22 67 Tryz_key_u64 Tryz_und_map _ mb fs.length _ rfl hown ?_; intro w0 hrg0 hg0 hs0)
    | gi_in)
  go_frame
  gi_loopw [3] (fun _ wr => ∃ (left : Lit → Bool) (cnt : Nat) (ss : List Int), wr.ranges Go.Proofs.Tryz.prog 22 frR mb W.heap.size fs.length D left cnt ∧ ss.length + cnt ≤ fs.length ∧ KMet fs left ss ∧ J ss wr)
    (fun _ wr => wr.rangeLeft mb W.heap.size)
  case atStart =>
    exact ⟨_, _, [], hrg0, by simp [hsz], KMet.start hD, hJ [] W w0 none h0 hg0 (fun r e => by cases e)⟩
  case round =>
    obtain ⟨left, cnt, ss, hrg, hcs, hC, hJs⟩ := hrel
    gi_wp2_with (first
      | (gi_at_next; refine wpListIn_next_ranges _ rfl _ rfl 22 Tryz_key_u64 frR encU id (fun key kl hk => by obtain ⟨x, hx, _⟩ := Maps.keyOf_int_inv Tryz_und_u64 hk; exact ⟨x, hx⟩) (fun v _ _ => ⟨v, rfl⟩) mb W.heap.size fs.length _ _ _ rfl hrg ?_ ?_)
      | gi_in)
    · intro hc0 hl0
      gi_wp2
      go_end0
      exact ⟨⟨_, rfl⟩, .inl ⟨ss, hC.perm hk hl0, hJs⟩⟩
    · intro x c kl yd yp w2 cnt2 hkey hlk hv hat hrg2 hlt hg2 hs2 hen
      obtain ⟨x', ex, rfl, _⟩ := Maps.keyOf_int_inv Tryz_und_u64 hkey
      obtain rfl : x = x' := by simpa [encU] using ex
      have hJ2 : J ss w2 := hJ ss wr w2 (some W.heap.size) hJs hg2 (fun r e => by cases e; exact ⟨Nat.le_refl _, hrg.iter_walk⟩)
      obtain ⟨fn, tmps, assign, body, hy, hR⟩ := hY ss x w2 hJ2 (by omega)
      clear hs2
      gi_wp2
      refine hR.mono ?_
      have hC2 := hC.step hD hlk hat
      rintro e W3 (⟨rfl, hJ3, hk3⟩ | ⟨rfl, hJx3⟩)
      · gi_wp2
        have hrg3 := hrg2.of_walks hk3
        go_roundw
        case rel => exact ⟨_, cnt2, ss ++ [x], hrg3, by simp; omega, hC2, hJ3⟩
        case measure => rw [hrg3.left_eq, hrg.left_eq]; exact hlt
      · gi_wp2
        refine bodyPost_ret (results_none rfl _ _ _) rfl ?_
        exact ⟨⟨_, rfl⟩, .inr ⟨ss ++ [x], trivial, hJx3⟩⟩

set_option maxHeartbeats 1000000 in
/-- maps.Keys: the map is boxed; the function value captures the box. -/
theorem keys_in (n : Nat) (mb : Option Nat) (w : World) :
    CallsIn Fence.wide n Go.Proofs.Tryz.prog 62 #[.map mb] w fun e w' => e = .returned (.func (.func 84) #[] #[.pointer (some ⟨w.heap.size, 0, none⟩)]) ∧ w' = w.alloc (.cells #[.map mb] 68) := by
  have hf : Fence.wide.fn 62 := trivial
  refine callsIn_of_wp Go.Proofs.Tryz.func62 rfl hf ?_ rfl
  simp only [Go.Proofs.Tryz.ntmps62, List.size_toArray, List.length_cons, List.length_nil, Nat.reduceAdd, Nat.reduceSub, Array.replicate_succ, Array.replicate_zero, List.push_toArray, List.append_toArray, List.nil_append, List.cons_append]
  gi_wp2
  go_ret
  exact ⟨rfl, rfl⟩

/-- maps.Keys hands back a value that gives the bases. -/
theorem keys_stops (n : Nat) (hn : 1 ≤ n) (Bm mb : Nat) (fs : List Fr) (w : World) (hBm : Bm < w.heap.size) (hlen : fs.length ≤ maxLen) (hk : (fs.map (·.base)).Nodup) (hs : ∀ f ∈ fs, f.base < 281474976710656)
    (hm : w.cell? ⟨Bm, 0, none⟩ = some (.map (some mb))) (hmap : w.heap[mb]? = some (.map (ents 0 fs).toArray fs.length)) :
    SeqStops Fence.wide n Go.Proofs.Tryz.prog 84 #[.pointer (some ⟨Bm, 0, none⟩)] encU (fun ss => ss.Perm (bases fs)) (fun _ => True) fs.length w := fun l J Jx W hW hJ _ hY h0 =>
  keysIt_in n hn l Bm mb fs J Jx hlen hk hs hY W hJ ((hW.cell (p := ⟨Bm, 0, none⟩) hBm).trans hm) ((hW.block mb (Array.getElem?_eq_some_iff.1 hmap).1).trans hmap) h0
end Go.Pat

/- slices.Sorted over an iterator of numbers: a slice of the call's own that holds what the iterator gives, sorted. Lines of the kit's worked walks at the dump (GgPos, GgSorted), turned to uint64; slices.Sort's contract is this claim's own. -/
namespace Go.Pat
open Go Go.RowKit Go.Maps Go.Sort Go.Shelf Go.Proofs

theorem holds_of_block_u {w : World} {g : Nat} {cur : Array Value} {e : TypeId} {ss : List Int} (hb : w.heap[g]? = some (.cells cur e (0, 0))) (ht : cur.toList.take ss.length = ss.map encU) : Holds encU w g 0 ss.toArray := by
  intro j hj
  have hj' : j < ss.length := by simpa using hj
  refine ⟨?_, by simp [World.frozen?, hb]⟩
  have h1 : (cur.toList.take ss.length)[j]? = (ss.map encU)[j]? := by rw [ht]
  rw [List.getElem?_take_of_lt hj'] at h1
  simp only [World.cell?, hb, Nat.zero_add]
  simp only [Option.isSome_none, Bool.false_eq_true, if_false]
  rw [← Array.getElem?_toList, h1]
  simp [hj']

theorem heap_sorted_u {w : World} {g n : Nat} {os : Array Obj} {cur : Array Value} {e : TypeId} {fr : Nat × Nat} (d : Array Int) (hb : w.heap[g]? = some (.cells cur e fr)) :
    (grow (putRow encU (Sort.ahead w n) g 0 d) os).heap[g]? = some (.cells (putCells encU 0 d cur) e fr) := by
  have hg : g < w.heap.size := (Array.getElem?_eq_some_iff.1 hb).1
  rw [heap_grow_old _ _ (by simpa using hg)]
  simp [putRow, mapBlock, Sort.ahead, Array.getElem?_modify, hb, onCells]

theorem grownBy_sorted_u {w : World} {g n : Nat} {os : Array Obj} (d : Array Int) : w.grownBy (grow (putRow encU (Sort.ahead w n) g 0 d) os) (some g) := by
  refine ⟨rfl, rfl, rfl, by simp, fun k hk hne => ?_⟩
  rw [heap_grow_old _ _ (by simpa using hk)]
  have : g ≠ k := fun e => hne (by rw [e])
  simp [putRow, mapBlock, Sort.ahead, Array.getElem?_modify, this]

theorem take_putCells_u (cur : Array Value) (ts : List Int) (h : ts.length ≤ cur.size) : (putCells encU 0 ts.toArray cur).toList.take ts.length = ts.map encU := by
  apply List.ext_getElem?
  intro j
  by_cases hj : j < ts.length
  · rw [List.getElem?_take_of_lt hj, Array.getElem?_toList]
    simp [putCells, hj, show j < cur.size by omega]
  · rw [List.getElem?_take_eq_none (by omega), List.getElem?_eq_none (by simp; omega)]

theorem ownsRow_sorted_u {w : World} {base g cap n : Nat} {e : TypeId} {os : Array Obj} {cur : Array Value} {ss ts : List Int} (hl : ts.length = ss.length) (hbase : base ≤ g) (hb : w.heap[g]? = some (.cells cur e (0, 0)))
    (h1 : ss.length ≤ cap) (h2 : cap ≤ maxLen) (h3 : cur.size = cap * 1) :
    (grow (putRow encU (Sort.ahead w n) g 0 ts.toArray) os).ownsRow base e 1 (.slice (some ⟨g, 0, none⟩) ss.length cap) ss.length (ts.map encU) :=
  ⟨by simp [hl], .inr ⟨g, cap, _, rfl, hbase, heap_sorted_u _ hb, h1, h2, by simp [putCells, h3], by rw [Nat.mul_one, ← hl]; exact take_putCells_u cur ts (by omega)⟩⟩

theorem Tryz_und_u64s : Go.Proofs.Tryz.prog.underlying 109 = some (.slice 22) := by kernel_rfl
theorem Tryz_info_u64 : (Go.Proofs.Tryz.prog.info? 22).map (fun i => (i.zero, i.size, i.bytes)) = some (some (.int .u64 0), 1, 8) := by kernel_rfl

attribute [local go_sem] Oper.semAt_some

set_option maxRecDepth 100000 in
set_option maxHeartbeats 2000000 in
/-- slices.AppendSeq of nil and an iterator. -/
theorem appendSeq_in (n : Nat) (hn : 2 ≤ n) (g : Nat) (lb : Array Value) (eg : ∀ args w, (callFunc g args).run Go.Proofs.Tryz.prog w = .ok (.enter g args) w)
    (S Sp : List Int → Prop) (N : Nat) (hN : N ≤ maxLen) (hNb : N * 8 ≤ 140737488355328) (w : World) (hseq : SeqStops Fence.wide (n - 1) Go.Proofs.Tryz.prog g lb encU S Sp N w) :
    CallsIn Fence.wide n Go.Proofs.Tryz.prog 87 #[.slice none 0 0, .func (.func g) #[] lb] w fun e w' => ∃ (v : Value) (ss : List Int), e = .returned v ∧ S ss ∧ ss.length ≤ N ∧ w'.ownsRow w.heap.size 22 1 v ss.length (ss.map encU) ∧ (v = .slice none 0 0 ↔ ss = []) ∧ Below w.heap.size w w' := by
  have h1 : 1 ≤ n := by omega
  have hf : Fence.wide.fn 87 := trivial
  have hFg : Fence.wide.fn g := trivial
  obtain ⟨i0, hi, hz0, hz1, hz2⟩ := info_parts Tryz_info_u64
  refine callsIn_of_wp_marks Go.Proofs.Tryz.func87 rfl hf ?_ rfl
  simp only [Go.Proofs.Tryz.ntmps87, List.size_toArray, List.length_cons, List.length_nil, Nat.reduceAdd, Nat.reduceSub, Array.replicate_succ, Array.replicate_zero, List.push_toArray, List.append_toArray, List.nil_append, List.cons_append]
  gi_wp2
  have bO := Boxed.new w 109 (.slice none 0 0)
  have hB0 : Below w.heap.size w (w.alloc (.cells #[.slice none 0 0] 109)) := (Below.refl _ w).alloc (Nat.le_refl _) _
  refine wpIn_rangeFunc_ownG rfl h1 (gf := g) (lb := lb) rfl hFg eg (hseq : SeqStopsK Fence.wide (n - 1) Go.Proofs.Tryz.prog g lb (fun x => #[encU x]) KeepsWalks S Sp N w)
    walksK_t walksK_b hB0 (fun _ => rfl)
    (fun pre W => ((∃ v, Boxed W w.heap.size 109 v ∧ W.ownsRow w.heap.size 22 1 v pre.length (pre.map encU) ∧ (v = .slice none 0 0 ↔ pre = [])) ∧ Below w.heap.size w W) ∧ pre.length ≤ N)
    (fun _ _ _ => False)
    (OwnFrom.and (OwnFrom.and (Own.from (holdsRow_own w.heap.size w.heap.size 109 22 1 (fun pre : List Int => pre.length) (fun pre => pre.map encU) (fun pre v => v = .slice none 0 0 ↔ pre = [])) _) (ownFrom_below (Nat.le_refl _) (by simp))) (fun _ _ _ _ hs _ _ => hs))
    (fun _ _ _ _ _ hs _ _ => hs)
    ⟨⟨⟨_, bO, World.ownsRow_nil _ _ _ _, by simp⟩, hB0⟩, by simp⟩
    (fun x => { tmps := #[.slice none 0 0, .func (.func g) #[] lb, .pointer (some ⟨w.heap.size, 0, none⟩), undef, .slice none 0 0, encU x, .func (.func g) #[] lb, encU x, undef, undef, undef, undef, undef], defers := [] }) ?assign ?body ?done ?stop
  case assign =>
    intro l x W K hK
    gi_wp2
    exact hK
  case body =>
    rintro l pre x W ⟨⟨⟨v, hv, hrow, hnil⟩, hB⟩, hle⟩ hlt
    have hc := hv.cell
    gi_wp2_with (gi_at_builtin; refine wpListIn_append_own _ rfl _ _ 109 rfl w.heap.size 22 i0 (.int .u64 0) 1 8 Tryz_und_u64s hi hz0 hz1 hz2 rfl (by decide) _ _ _ rfl (hrow.alloc _) ⟨W.heap.size, 0, none⟩ 1 1 [encU x] rfl rfl (cell_one_new _ _ _) (by simp [Value.oneCell']) (by omega) (by omega) (by have := hB.size; simp; omega) ?_; intro v' w1 hown' hgrow _; obtain ⟨g', cap', rfl⟩ := ownsRow_succ hown'; obtain ⟨hv1, hv2, hr2, hk2, hb2⟩ := hv.appended (by decide) hrow hB.size (Nat.le_refl _) hown' hgrow; have hc1 := hv1.cell; have hf1 := hv1.frozen)
    exact ⟨hk2.from _, hk2.walks, ⟨⟨_, hv2, by simpa using hr2, by simp⟩, hB.trans hb2⟩, by simp; omega⟩
  case done =>
    rintro D ys W hD hS ⟨⟨⟨v, hv, hrow, hnil⟩, hB⟩, hle⟩ hK
    have hc := hv.cell
    gi_wp2
    refine ⟨by simp, .inl ⟨_, _, rfl, run_takeDeferred hK, ?_⟩⟩
    exact ⟨_, results_tmp rfl _ _ _, v, ys, rfl, hS, hle, ownsRow_putObj hrow _ hK rfl, hnil, hB.trans (belowK_b (w := w) (Nat.le_refl _) W D _ _ (by simp at hD; omega) hK rfl rfl)⟩
  case stop =>
    rintro D c pre W _ _ h _
    exact h.elim

set_option maxHeartbeats 1000000 in
/-- slices.Collect. -/
theorem collect_in (n : Nat) (hn : 3 ≤ n) (g : Nat) (lb : Array Value) (eg : ∀ args w, (callFunc g args).run Go.Proofs.Tryz.prog w = .ok (.enter g args) w)
    (S Sp : List Int → Prop) (N : Nat) (hN : N ≤ maxLen) (hNb : N * 8 ≤ 140737488355328) (w : World) (hseq : SeqStops Fence.wide (n - 1 - 1) Go.Proofs.Tryz.prog g lb encU S Sp N w) :
    CallsIn Fence.wide n Go.Proofs.Tryz.prog 82 #[.func (.func g) #[] lb] w fun e w' => ∃ (v : Value) (ss : List Int), e = .returned v ∧ S ss ∧ ss.length ≤ N ∧ w'.ownsRow w.heap.size 22 1 v ss.length (ss.map encU) ∧ (v = .slice none 0 0 ↔ ss = []) ∧ Below w.heap.size w w' := by
  have h1 : 1 ≤ n := by omega
  have hf : Fence.wide.fn 82 := trivial
  have hf2 : Fence.wide.fn 87 := trivial
  refine callsIn_of_wp Go.Proofs.Tryz.func82 rfl hf ?_ rfl
  simp only [Go.Proofs.Tryz.ntmps82, List.size_toArray, List.length_cons, List.length_nil, Nat.reduceAdd, Nat.reduceSub, Array.replicate_succ, Array.replicate_zero, List.push_toArray, List.append_toArray, List.nil_append, List.cons_append]
  gi_wp2_with (gi_at_call 87; refine (appendSeq_in (n - 1) (by omega) g lb eg S Sp N hN hNb _ hseq).mono ?_; rintro e w' ⟨v, ss, rfl, hS, hl, hrow, hnil, hb⟩)
  go_ret
  exact ⟨v, ss, rfl, hS, hl, hrow, hnil, hb⟩

set_option maxRecDepth 100000 in
set_option maxHeartbeats 2000000 in
/-- slices.Sorted. -/
theorem sorted_in (n : Nat) (hn : 4 ≤ n) (g : Nat) (lb : Array Value) (eg : ∀ args w, (callFunc g args).run Go.Proofs.Tryz.prog w = .ok (.enter g args) w)
    (S Sp : List Int → Prop) (N : Nat) (hN : N ≤ maxLen) (hNb : N * 8 ≤ 140737488355328) (w : World) (hseq : SeqStops Fence.wide (n - 1 - 1 - 1) Go.Proofs.Tryz.prog g lb encU S Sp N w) :
    CallsIn Fence.wide n Go.Proofs.Tryz.prog 61 #[.func (.func g) #[] lb] w fun e w' => ∃ (v : Value) (ss : List Int), e = .returned v ∧ S ss ∧ ss.length ≤ N ∧
      w'.ownsRow w.heap.size 22 1 v ss.length ((ss.mergeSort (fun x y => decide (x ≤ y))).map encU) ∧ (v = .slice none 0 0 ↔ ss = []) ∧ Below w.heap.size w w' := by
  have h1 : 1 ≤ n := by omega
  have hf : Fence.wide.fn 61 := trivial
  have hf2 : Fence.wide.fn 82 := trivial
  have hf3 : Fence.wide.fn 83 := trivial
  refine callsIn_of_wp Go.Proofs.Tryz.func61 rfl hf ?_ rfl
  simp only [Go.Proofs.Tryz.ntmps61, List.size_toArray, List.length_cons, List.length_nil, Nat.reduceAdd, Nat.reduceSub, Array.replicate_succ, Array.replicate_zero, List.push_toArray, List.append_toArray, List.nil_append, List.cons_append]
  gi_wp2_with (gi_at_call 82; refine (collect_in (n - 1) (by omega) g lb eg S Sp N hN hNb _ hseq).mono ?_; rintro e W ⟨v, ss, rfl, hS, hlen, hrow, hnil, hb⟩)
  rcases hrow.2 with ⟨rfl, hz⟩ | ⟨gb, cap, cur, rfl, hbase, hgb, r1, r2, r3, r4⟩
  · have hss : ss = [] := List.eq_nil_of_length_eq_zero hz
    subst hss
    have cS := callsIn_wide (n := n - 1).2 (Tryz.uSortNil none 0 W)
    gi_wp2_with (gi_at_call 83; refine cS.mono ?_; rintro e w' ⟨rfl, rfl⟩)
    go_ret
    exact ⟨.slice none 0 0, [], rfl, hS, by simp, by simpa using hrow, by simp, hb⟩
  · have hH : Holds encU W gb 0 ss.toArray := holds_of_block_u hgb (by simpa using r4)
    have hgl : gb < W.heap.size := (Array.getElem?_eq_some_iff.1 hgb).1
    have hsz : ss.length < 4611686018427387904 := by omega
    have cS := callsIn_wide (n := n - 1).2 (Tryz.uSort gb 0 cap ss W hH hgl hsz)
    gi_wp2_with (gi_at_call 83; refine cS.mono ?_; rintro e w' ⟨rfl, nn, os, rfl⟩)
    go_ret
    exact ⟨_, ss, rfl, hS, hlen, ownsRow_sorted_u (by simp) hbase hgb r1 r2 r3, hnil, hb.grown (grownBy_sorted_u _) hb.size (fun j hj => by cases hj; exact hbase)⟩
end Go.Pat

/- (*Mem).all: the iterator over a memory's pages, in the order of their bases, for every loop body that leaves the memory and the slices of numbers alone. -/
namespace Go.Pat
open Go Go.RowKit Go.Maps Go.Sort Go.Shelf Go.Proofs

/-- the pages in the order of their bases. -/
def sortF (fs : List Fr) : List Fr := fs.mergeSort fun a b => decide ((a.base : Int) ≤ (b.base : Int))
theorem sortF_perm (fs : List Fr) : (sortF fs).Perm fs := List.mergeSort_perm _ _
theorem sortF_length (fs : List Fr) : (sortF fs).length = fs.length := (sortF_perm fs).length_eq
theorem sortF_bases {fs : List Fr} {ss : List Int} (h : ss.Perm (bases fs)) : ss.mergeSort (fun x y => decide (x ≤ y)) = bases (sortF fs) := by
  have e1 : ss.mergeSort leI = (bases fs).mergeSort leI := mergeSort_of_perm_i h
  rw [show ss.mergeSort (fun x y => decide (x ≤ y)) = ss.mergeSort leI from rfl, e1]
  unfold bases sortF
  exact (List.map_mergeSort (r := fun a b : Fr => decide ((a.base : Int) ≤ (b.base : Int))) (s := leI) (f := fun f : Fr => (f.base : Int)) (fun a _ b _ => rfl)).symm

/-- a memory, or none. -/
def MemN (n₀ : Nat) (w : World) (q : Option Addr) (fs : List Fr) : Prop := (q = none ∧ fs = []) ∨ ∃ p mb, q = some ⟨p, 0, none⟩ ∧ MemAt w p mb fs ∧ MemBelow n₀ p mb fs
theorem MemN.below {n₀ : Nat} {w w' : World} {q : Option Addr} {fs : List Fr} (h : MemN n₀ w q fs) (hb : Below n₀ w w') : MemN n₀ w' q fs := by
  rcases h with h | ⟨p, mb, e, hM, hB⟩
  · exact .inl h
  · exact .inr ⟨p, mb, e, hM.below hB hb, hB⟩
theorem MemAt.memN {w : World} {p mb : Nat} {fs : List Fr} (h : MemAt w p mb fs) : MemN w.heap.size w (some ⟨p, 0, none⟩) fs := .inr ⟨p, mb, rfl, h, h.lt⟩

/-- slices of numbers, and boxed pointers to a memory, lie as they lay. -/
def KeptT (W W' : World) : Prop := ∀ (k : Nat) (cur : Array Value) (t : TypeId), t = 22 ∨ t = 47 → W.heap[k]? = some (Obj.cells cur t (0, 0)) → W'.heap[k]? = some (Obj.cells cur t (0, 0))
theorem KeptT.refl (W : World) : KeptT W W := fun _ _ _ _ h => h
theorem KeptT.trans {A B C : World} (h : KeptT A B) (k : KeptT B C) : KeptT A C := fun i cur t ht hi => k i cur t ht (h i cur t ht hi)
theorem KeptT.grown {W W' : World} {row : Option Nat} (hg : W.grownBy W' row) (hr : ∀ (k : Nat) (cur : Array Value) (t : TypeId), t = 22 ∨ t = 47 → W.heap[k]? = some (Obj.cells cur t (0, 0)) → some k ≠ row) : KeptT W W' :=
  fun k cur t ht h => (hg.block k (Array.getElem?_eq_some_iff.1 h).1 (hr k cur t ht h)).trans h
theorem KeptT.below {W W' : World} (hb : Below W.heap.size W W') : KeptT W W' := fun k _ _ _ h => (hb.block k (Array.getElem?_eq_some_iff.1 h).1).trans h

/-- what a round of a loop over the pages keeps. -/
def KpM (n₀ : Nat) (W W' : World) : Prop := Below n₀ W W' ∧ KeptT W W'
theorem KpM.refl (n₀ : Nat) (W : World) : KpM n₀ W W := ⟨Below.refl _ _, .refl _⟩
theorem kpM_t {n₀ : Nat} {A B C : World} (h : KpM n₀ A B) (k : KpM n₀ B C) : KpM n₀ A C := ⟨h.1.trans k.1, h.2.trans k.2⟩
theorem kpM_b {n₀ : Nat} {w : World} (hn : n₀ ≤ w.heap.size) (W : World) (l : Nat) (o o' : Obj) (hl : w.heap.size ≤ l) (h : W.heap[l]? = some o) (hc : o.isCells = false) (hw : o.isWalk = false) : KpM n₀ W (W.putObj l o') :=
  ⟨belowK_b (w := w) hn W l o o' hl h hc hw, fun k cur t _ hk => (World.putObj_heap_other (fun e => by subst e; rw [h] at hk; cases hk; cases hc)).trans hk⟩

/-- a row of numbers. -/
theorem rowU {W : World} {base : Nat} {v : Value} {xs : List Int} (h : W.ownsRow base 22 1 v xs.length (xs.map encU)) :
    ∃ A cap, v = .slice A xs.length cap ∧ ∀ j (hj : j < xs.length), ∃ g cur, A = some ⟨g, 0, none⟩ ∧ W.heap[g]? = some (.cells cur 22 (0, 0)) ∧ cur[j]? = some (encU xs[j]) := by
  rcases h.2 with ⟨rfl, h0⟩ | ⟨g, cap, cur, rfl, _, hh, hn, hm, hc, ht⟩
  · exact ⟨none, 0, by rw [h0], fun j hj => by omega⟩
  · refine ⟨_, cap, rfl, fun j hj => ⟨g, cur, rfl, hh, ?_⟩⟩
    have h1 : (cur.toList.take (xs.length * 1))[j]? = (xs.map encU)[j]? := by rw [ht]
    rw [List.getElem?_take, if_pos (by omega)] at h1
    rw [← Array.getElem?_toList, h1]
    simp [hj]

theorem frAt_mem {fs : List Fr} (hk : (fs.map (·.base)).Nodup) {f : Fr} (hf : f ∈ fs) : frAt fs f.base = some f := by
  induction fs with
  | nil => cases hf
  | cons g fs ih =>
    simp only [List.map_cons, List.nodup_cons] at hk
    unfold frAt
    rw [List.find?_cons]
    by_cases e : g.base = f.base
    · rcases List.mem_cons.1 hf with rfl | hf
      · simp
      · exact absurd (e ▸ List.mem_map.2 ⟨f, hf, rfl⟩) hk.1
    · rcases List.mem_cons.1 hf with rfl | hf
      · exact absurd rfl e
      · have : (g.base == f.base) = false := by simpa using e
        rw [this]
        exact ih hk.2 hf

theorem MemAt.look1 {w : World} {p mb : Nat} {fs : List Fr} {f : Fr} (h : MemAt w p mb fs) (hf : f ∈ fs) :
    (Instr.lookup 68 (.map (some mb)) (.int .u64 (f.base : Int)) false).run Go.Proofs.Tryz.prog w = .ok (.agg #[.int .i64 f.perm, .slice (some ⟨f.blk, 0, none⟩) 4096 f.cap]) w := by
  obtain ⟨n, hn⟩ := findNow_some (frAt_mem h.keys hf)
  exact run_lookup_hit Tryz_und_map Tryz_und_u64 (by simp [Go.MapKept.IsKey]) h.map hn false

/-- what the loop is handed: a page. -/
abbrev encF {fs : List Fr} (x : { f : Fr // f ∈ fs }) : Array Value := #[.int .u64 (x.1.base : Int), .agg #[.int .i64 x.1.perm, .slice (some ⟨x.1.blk, 0, none⟩) 4096 x.1.cap]]

theorem grown_of_below {W W' : World} (h : Below W.heap.size W W') : W.grownBy W' none := ⟨h.os, h.tape, h.output, h.size, fun k hk _ => h.block k hk⟩

/-- slices.Sorted(maps.Keys(m.pages)): the bases, sorted. -/
theorem sortedKeys_in (n : Nat) (hn : 5 ≤ n) (Bm p mb : Nat) (fs : List Fr) (w : World) (hBm : w.cell? ⟨Bm, 0, none⟩ = some (.map (some mb))) (hBl : Bm < w.heap.size) (hM : MemAt w p mb fs) (hlen : fs.length ≤ 17592186044416) :
    CallsIn Fence.wide n Go.Proofs.Tryz.prog 61 #[.func (.func 84) #[] #[.pointer (some ⟨Bm, 0, none⟩)]] w fun e w' => ∃ A cap, e = .returned (.slice A fs.length cap) ∧
      (∀ j (hj : j < (sortF fs).length), ∃ g cur, A = some ⟨g, 0, none⟩ ∧ w'.heap[g]? = some (.cells cur 22 (0, 0)) ∧ cur[j]? = some (encU (sortF fs)[j].base)) ∧ Below w.heap.size w w' := by
  have hseq := keys_stops (n - 1 - 1 - 1) (by omega) Bm mb fs w hBl (by simp only [maxLen]; omega) hM.keys hM.small hBm hM.map
  refine (sorted_in n (by omega) 84 _ (enters_of Go.Proofs.Tryz.func84 (by kernel_rfl) rfl) _ _ fs.length (by simp only [maxLen]; omega) (by omega) _ hseq).mono ?_
  rintro e w2 ⟨v, ss, rfl, hS, hls, hrow, -, hB2⟩
  rw [sortF_bases hS] at hrow
  have hle : ss.length = (bases (sortF fs)).length := by
    rw [hS.length_eq]; simp [bases, sortF_length]
  rw [hle] at hrow
  obtain ⟨A, cap, rfl, hcells⟩ := rowU hrow
  have hle2 : (bases (sortF fs)).length = fs.length := by simp [bases, sortF_length]
  refine ⟨A, cap, by rw [hle2], fun j hj => ?_, hB2⟩
  obtain ⟨g, cur, h1, h2, h3⟩ := hcells j (by simpa [bases] using hj)
  exact ⟨g, cur, h1, h2, by rw [h3]; simp [bases]⟩

set_option maxRecDepth 100000 in
set_option maxHeartbeats 2000000 in
theorem allIt_in (n : Nat) (hn : 6 ≤ n) (l Bm n₀ : Nat) (q : Option Addr) (fs : List Fr) (J Jx : List { f : Fr // f ∈ fs } → World → Prop) (hlen : fs.length ≤ 17592186044416)
    (hY : ∀ pre x W, J pre W → pre.length < fs.length → YieldAt Fence.wide (n - 1) Go.Proofs.Tryz.prog l (encF x) W fun e W' =>
      (e = .returned (.bool true) ∧ J (pre ++ [x]) W' ∧ KpM n₀ W W') ∨ (e = .returned (.bool false) ∧ Jx (pre ++ [x]) W'))
    (W : World) (hJ : AbidesFrom W.heap.size J) (hn₀ : n₀ ≤ W.heap.size) (hBox : W.heap[Bm]? = some (.cells #[.pointer q] 47 (0, 0))) (hM : MemN n₀ W q fs) (h0 : J [] W) :
    CallsIn Fence.wide n Go.Proofs.Tryz.prog 60 #[.func (.yield l) #[] #[], .pointer (some ⟨Bm, 0, none⟩)] W fun e W' => (∃ v, e = .returned v) ∧
      ((∃ ys : List { f : Fr // f ∈ fs }, ys.map (·.1) = sortF fs ∧ J ys W') ∨ (∃ pre, True ∧ Jx pre W')) := by
  have hf : Fence.wide.fn 60 := trivial
  have hf2 : Fence.wide.fn 62 := trivial
  have hf3 : Fence.wide.fn 61 := trivial
  have h1 : 1 ≤ n := by omega
  have hc : W.cell? ⟨Bm, 0, none⟩ = some (.pointer q) := Boxed.cell hBox
  refine callsIn_of_wp Go.Proofs.Tryz.func60 rfl hf ?_ rfl
  simp only [Go.Proofs.Tryz.ntmps60, List.size_toArray, List.length_cons, List.length_nil, Nat.reduceAdd, Nat.reduceSub, Array.replicate_succ, Array.replicate_zero, List.push_toArray, List.append_toArray, List.nil_append, List.cons_append]
  rcases hM with ⟨rfl, rfl⟩ | ⟨p, mb, rfl, hM, hMB⟩
  · gi_wp2
    refine bodyPost_ret (results_none rfl _ _ _) rfl ?_
    exact ⟨⟨_, rfl⟩, .inl ⟨[], by simp [sortF], h0⟩⟩
  · have hcp : W.cell? ⟨p, 0, none⟩ = some (.map (some mb)) := hM.cell
    have hBl : Bm < W.heap.size := (Array.getElem?_eq_some_iff.1 hBox).1
    have hbx : Below W.heap.size W (W.alloc (.cells #[.map (some mb)] 68)) := (Below.refl _ W).alloc (Nat.le_refl _) _
    have hM1 : MemAt (W.alloc (.cells #[.map (some mb)] 68)) p mb fs := hM.below hMB (hbx.mono hn₀)
    gi_wp2_with (first
      | (gi_at_call 62; refine (keys_in (n - 1) (some mb) W).mono ?_; rintro e w' ⟨rfl, rfl⟩)
      | (gi_at_call 61; refine (sortedKeys_in (n - 1) (by omega) W.heap.size p mb fs _ (by simp) (by simp) hM1 hlen).mono ?_; rintro e w2 ⟨A, cap, rfl, hcells, hB2⟩))
    have hB3 : Below W.heap.size W w2 := hbx.trans (hB2.mono (by simp))
    have hJ2 : J [] w2 := hJ [] W w2 none h0 (grown_of_below hB3) (fun r e => by cases e)
    have hM2 : MemAt w2 p mb fs := hM.below hMB (hB3.mono hn₀)
    have hBox2 : w2.heap[Bm]? = some (.cells #[.pointer (some ⟨p, 0, none⟩)] 47 (0, 0)) := (hB3.block Bm hBl).trans hBox
    clear hB3 hB2 hM1 hbx h0 hJ hBox hBl hcp hc hM
    have hzl := sortF_length fs
    gi_loopw [14] (fun i wr => ∃ pre : List { f : Fr // f ∈ fs }, i = .int .i64 pre.length ∧ pre.length ≤ fs.length ∧ pre.map (·.1) = (sortF fs).take pre.length ∧ KpM n₀ w2 wr ∧ J pre wr) (fun i _ => fs.length - (Go.RowKit.intOf i).toNat)
    case atStart => exact ⟨[], rfl, by simp, rfl, .refl _ _, hJ2⟩
    case round =>
      obtain ⟨pre, rfl, hle, htk, hK, hJr⟩ := hrel
      have hMr : MemAt wr p mb fs := hM2.below hMB hK.1
      have hcp : wr.cell? ⟨p, 0, none⟩ = some (.map (some mb)) := hMr.cell
      have hc : wr.cell? ⟨Bm, 0, none⟩ = some (.pointer (some ⟨p, 0, none⟩)) := Boxed.cell (hK.2 Bm _ _ (.inr rfl) hBox2)
      by_cases hlt : pre.length < fs.length
      · have hd : decide ((pre.length : Int) < (fs.length : Int)) = true := decide_eq_true (by omega)
        obtain ⟨g, cur, rfl, hg, hcj⟩ := hcells pre.length (by omega)
        have hcell : wr.cell? ⟨g, pre.length, none⟩ = some (encU (sortF fs)[pre.length].base) := by
          rw [cell_of_row wr g pre.length cur _ _ (hK.2 g _ _ (.inl rfl) hg)]; exact hcj
        obtain ⟨x, hx⟩ : ∃ x : { f : Fr // f ∈ fs }, x.1 = (sortF fs)[pre.length] := ⟨⟨(sortF fs)[pre.length], (sortF_perm fs).mem_iff.1 (List.getElem_mem _)⟩, rfl⟩
        rw [← hx] at hcell
        have HX := Lib.hid hx
        clear hx
        have hlk := hMr.look1 x.2
        obtain ⟨fn, tmps, assign, body, hy, hR⟩ := hY pre x wr hJr hlt
        dsimp only [encF, encU] at hy hcell
        have hji : (pre.length : Int) < (fs.length : Int) := by omega
        gi_wp2
        refine hR.mono ?_
        rintro e W3 (⟨rfl, hJ3, hk3⟩ | ⟨rfl, hJx3⟩)
        · gi_wp2
          go_roundw
          case rel =>
            refine ⟨pre ++ [x], by simp, by simp; omega, ?_, kpM_t hK hk3, hJ3⟩
            rw [List.map_append, htk, List.length_append, List.map_cons, List.map_nil, HX.out]
            exact (List.take_succ_eq_append_getElem (by omega)).symm
          case measure => simp [Go.RowKit.intOf]; omega
        · gi_wp2
          refine bodyPost_ret (results_none rfl _ _ _) rfl ?_
          exact ⟨⟨_, rfl⟩, .inr ⟨pre ++ [x], trivial, hJx3⟩⟩
      · have hd : decide ((pre.length : Int) < (fs.length : Int)) = false := decide_eq_false (by omega)
        have hji : ¬ (pre.length : Int) < (fs.length : Int) := by omega
        gi_wp2
        go_end0
        refine ⟨⟨_, rfl⟩, .inl ⟨pre, ?_, hJr⟩⟩
        show List.map (fun x => x.1) pre = sortF fs
        rw [htk, List.take_of_length_le (by omega)]

set_option maxHeartbeats 1000000 in
/-- m.all(): m is boxed; the function value captures the box. -/
theorem all_in (n : Nat) (q : Option Addr) (w : World) :
    CallsIn Fence.wide n Go.Proofs.Tryz.prog 41 #[.pointer q] w fun e w' => e = .returned (.func (.func 60) #[] #[.pointer (some ⟨w.heap.size, 0, none⟩)]) ∧ w' = w.alloc (.cells #[.pointer q] 47) := by
  have hf : Fence.wide.fn 41 := trivial
  refine callsIn_of_wp Go.Proofs.Tryz.func41 rfl hf ?_ rfl
  simp only [Go.Proofs.Tryz.ntmps41, List.size_toArray, List.length_cons, List.length_nil, Nat.reduceAdd, Nat.reduceSub, Array.replicate_succ, Array.replicate_zero, List.push_toArray, List.append_toArray, List.nil_append, List.cons_append]
  gi_wp2
  go_ret
  exact ⟨rfl, rfl⟩

/-- m.all() hands back a value that gives the pages. -/
theorem all_stops (n : Nat) (hn : 6 ≤ n) (Bm n₀ : Nat) (q : Option Addr) (fs : List Fr) (w : World) (hlen : fs.length ≤ 17592186044416) (hn₀ : n₀ ≤ w.heap.size) (hBox : w.heap[Bm]? = some (.cells #[.pointer q] 47 (0, 0))) (hM : MemN n₀ w q fs) :
    SeqStopsK Fence.wide n Go.Proofs.Tryz.prog 60 #[.pointer (some ⟨Bm, 0, none⟩)] (encF (fs := fs)) (KpM n₀) (fun ys => ys.map (·.1) = sortF fs) (fun _ => True) fs.length w := fun l J Jx W hW hJ _ hY h0 =>
  allIt_in n hn l Bm n₀ q fs J Jx hlen hY W hJ (Nat.le_trans hn₀ hW.size) ((hW.block Bm (Array.getElem?_eq_some_iff.1 hBox).1).trans hBox) (hM.below (hW.mono hn₀)) h0
end Go.Pat
