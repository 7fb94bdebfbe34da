/- (*Mem).Clone: the same pages in memory of their own. -/
import Derived.Test.YtkgnodlhdilmoaaPages
namespace Go.Pat
open Go Go.RowKit Go.Maps Go.Sort Go.Shelf Go.Proofs

theorem ents_get (fs : List Fr) (j i : Nat) : (ents j fs)[i]? = (fs[i]?).map (fun f => f.ent (j + i)) := by
  induction fs generalizing j i with
  | nil => simp [ents]
  | cons f fs ih =>
    cases i with
    | zero => simp [ents]
    | succ i =>
      simp only [ents, List.getElem?_cons_succ, ih]
      rw [show j + 1 + i = j + (i + 1) by omega]

theorem ents_set (fs : List Fr) (n : Nat) (f : Fr) (hn : n < fs.length) (hk : f.base = fs[n].base) :
    (ents 0 fs).toArray.modify n (fun e => { e with key := .int .u64 (f.base : Int), val := f.val }) = (ents 0 (fs.set n f)).toArray := by
  apply Array.ext_getElem?
  intro i
  rw [Array.getElem?_modify, List.getElem?_toArray, List.getElem?_toArray, ents_get, ents_get, List.getElem?_set]
  by_cases e : n = i
  · subst e
    rw [if_pos rfl, if_pos rfl, if_pos hn, List.getElem?_eq_getElem hn]
    simp [Fr.ent]
  · rw [if_neg e, if_neg e]

theorem findNow_at {fs : List Fr} {k : Nat} {f : Fr} (h : frAt fs k = some f) : ∃ n, ∃ hn : n < fs.length, fs[n].base = k ∧ Instr.findNow (.int .u64) (.int .u64 k) (ents 0 fs).toArray.toList 0 = some (some (n, fs[n].val)) := by
  have hfn := findNow_ents k fs 0 0
  cases hc : fs.findIdx? (fun f => f.base == k) with
  | none =>
    have := List.findIdx?_eq_none_iff.1 hc f (List.mem_of_find?_eq_some h)
    have h2 := List.find?_some h
    rw [h2] at this
    cases this
  | some n =>
    obtain ⟨hn, hp, _⟩ := List.findIdx?_eq_some_iff_getElem.1 hc
    rw [hc] at hfn
    simp only [Option.bind_some, List.getElem?_eq_getElem hn, Option.map_some, Nat.zero_add] at hfn
    exact ⟨n, hn, by simpa using hp, hfn⟩

theorem nodup_set {α : Type} {l : List α} (h : l.Nodup) {a : α} (ha : a ∉ l) (n : Nat) : (l.set n a).Nodup := by
  induction l generalizing n with
  | nil => simp
  | cons b l ih =>
    rw [List.nodup_cons] at h
    rw [List.mem_cons, not_or] at ha
    cases n with
    | zero => rw [List.set_cons_zero, List.nodup_cons]; exact ⟨ha.2, h.2⟩
    | succ n =>
      rw [List.set_cons_succ, List.nodup_cons]
      refine ⟨fun hm => ?_, ih h.2 ha.2 n⟩
      rcases List.mem_or_eq_of_mem_set hm with hm | hm
      · exact h.1 hm
      · exact ha.1 hm.symm

theorem MemAt.repl {w : World} {p mb n : Nat} {fs : List Fr} (h : MemAt w p mb fs) (hn : n < fs.length) (f : Fr) (hF : FrIn w f) (hb : f.blk ∉ fs.map (·.blk)) (hk : f.base = fs[n].base) :
    MemAt (Go.Pat.setObjW w mb (.map ((ents 0 fs).toArray.modify n (fun e => { e with key := .int .u64 (f.base : Int), val := f.val })) fs.length)) p mb (fs.set n f) := by
  refine ⟨(setObjW_other _ _ _ _ h.p_ne_mb).trans h.str, ?_, ?_, ?_, ?_, ?_⟩
  · rw [setObjW_heap _ _ _ h.lt.2.1, ents_set fs n f hn hk, List.length_set]
  · intro g hg
    rcases List.mem_or_eq_of_mem_set hg with hg | rfl
    · exact (h.pages g hg).keep (setObjW_other _ _ _ _ (FrIn.ne_mb h (h.pages g hg)))
    · exact hF.keep (setObjW_other _ _ _ _ (FrIn.ne_mb h hF))
  · rw [List.map_set]; exact nodup_set h.apart hb n
  · rw [List.map_set, hk]
    have : (fs.map (·.base)).set n fs[n].base = fs.map (·.base) := by
      apply List.ext_getElem?
      intro i
      rw [List.getElem?_set]
      by_cases e : n = i
      · subst e; simp [hn]
      · rw [if_neg e]
    rw [this]; exact h.keys
  · intro g hg
    rcases List.mem_or_eq_of_mem_set hg with hg | rfl
    · exact h.small g hg
    · rw [hk]; exact h.small _ (List.getElem_mem _)

/-- a page is kept in the map under its base. -/
theorem clone_put {w1 : World} {p mb B base : Nat} {perm : Int} {data : List UInt8} {fs : List Fr} {v : Value} (hM : MemAt w1 p mb fs) (hown : OwnB w1 B v data) (hl : data.length = 4096) (hB : ∀ f ∈ fs, f.blk < B) (hs : base < 281474976710656) :
    ∃ (g cap : Nat) (O : Obj) (gs : List Fr), v = .slice (some ⟨g, 0, none⟩) 4096 cap ∧ B ≤ g ∧
      (Instr.mapUpdate 103 (.map (some mb)) (.int .u64 (base : Int)) (.agg #[.int .i64 perm, .slice (some ⟨g, 0, none⟩) 4096 cap])).run Go.Proofs.Try.prog w1 = .ok () (setObjW w1 mb O) ∧
      MemAt (setObjW w1 mb O) p mb gs ∧ (∀ f ∈ gs, f ∈ fs ∨ f.blk = g) ∧ (base ∉ fs.map (·.base) → gs.map Fr.pg = fs.map Fr.pg ++ [⟨base, perm, data⟩]) := by
  rcases hown.2 with ⟨_, h0⟩ | ⟨g, cap, cur, rfl, hg, hh, hn, hm, hc, ht⟩
  · omega
  · rw [hl] at hn ht
    rw [hl]
    have hF : FrIn w1 ⟨base, perm, g, cap, data⟩ := by
      refine ⟨hl, hn, hm, cur, hh, by rw [hc, Nat.mul_one], fun i hi => ?_⟩
      have h1 : (cur.toList.take (4096 * 1))[i]? = (bcells data)[i]? := by rw [ht]
      have hi2 : i < data.length := hi
      rw [List.getElem?_take, if_pos (by omega)] at h1
      simp [bcells, bval, hi2] at h1
      exact h1
    have hnb : g ∉ fs.map (·.blk) := by
      intro hx
      obtain ⟨f, hf, e⟩ := List.mem_map.1 hx
      have := hB f hf
      omega
    cases hfr : frAt fs base with
    | none =>
      refine ⟨g, cap, _, _, rfl, hg, hM.upd base _ hfr, hM.push ⟨base, perm, g, cap, data⟩ hF hnb (not_mem_of_frAt hfr) hs, ?_, fun _ => by simp [Fr.pg]⟩
      intro f hf
      rcases List.mem_append.1 hf with hf | hf
      · exact .inl hf
      · obtain rfl := List.mem_singleton.1 hf
        exact .inr rfl
    | some f =>
      obtain ⟨n, hn2, hb2, hfn⟩ := findNow_at hfr
      have he : (ents 0 fs).toArray[n]? = some (fs[n].ent n) := by
        rw [List.getElem?_toArray, ents_get, List.getElem?_eq_getElem hn2]; simp
      have hup := run_mapUpdate_old (P := Go.Proofs.Try.prog) (w := w1) (xT := 103) (kT := 23) (eT := 102) (d := .int .u64) (k := .int .u64 (base : Int)) (v := .agg #[.int .i64 perm, .slice (some ⟨g, 0, none⟩) 4096 cap]) (mb := mb) (clock := fs.length) Try_und_map Try_und_u64 (by simp [Go.MapKept.IsKey]) hM.map hfn he (by simp [Fr.ent, hb2])
      refine ⟨g, cap, _, _, rfl, hg, hup, hM.repl hn2 ⟨base, perm, g, cap, data⟩ hF hnb hb2.symm, ?_, fun hno => ?_⟩
      · intro x hx
        rcases List.mem_or_eq_of_mem_set hx with hx | rfl
        · exact .inl hx
        · exact .inr rfl
      · exact absurd (List.mem_map.2 ⟨fs[n], List.getElem_mem _, hb2⟩) hno

/-- what lies in the new memory between two rounds. -/
def ClnBox (n₀ p mb : Nat) (W : World) (bs : List Nat) (l : List Pgd) : Prop := ∃ gs, MemAt W p mb gs ∧ (∀ f ∈ gs, n₀ ≤ f.blk) ∧ (bs.Nodup → gs.map Fr.pg = l)
theorem MemAt.keepNC {w w' : World} {p mb B : Nat} {fs : List Fr} (h : MemAt w p mb fs) (hmb : mb < B) {row : Option Nat} (hg : w.grownBy w' row) (hr : ∀ r, row = some r → B ≤ r ∧ ∃ o : Obj, w.heap[r]? = some o ∧ o.isCells = false) : MemAt w' p mb fs := by
  have key : ∀ (g : Nat) (cur : Array Value) (t : TypeId), w.heap[g]? = some (Obj.cells cur t (0, 0)) → w'.heap[g]? = w.heap[g]? := fun g cur t hc => hg.block g (lt_of_block hc) (fun e => by
    obtain ⟨_, o, ho, hn⟩ := hr g e.symm
    rw [hc] at ho; cases ho; cases hn)
  refine h.keep (key p _ _ h.str) (hg.block mb h.lt.2.1 (fun e => ?_)) (fun f hf => ?_)
  · have := (hr mb e.symm).1; omega
  · obtain ⟨_, _, _, cur, h4, _⟩ := h.pages f hf
    exact key f.blk cur _ h4
theorem clnBox_own {β : Type} (n₀ p mb B : Nat) (hmb : mb < B) (f : β → List Nat) (g : β → List Pgd) : OwnFrom B (fun s W => ClnBox n₀ p mb W (f s) (g s)) := by
  rintro s X Y row ⟨gs, hM, hge, hr⟩ hg hrow
  exact ⟨gs, hM.keepNC hmb hg hrow, hge, hr⟩

theorem kptBelow_setObj {n₀ mb : Nat} {W w2 : World} {es : Array MapEntry} {cl : Nat} (h2 : Below W.heap.size W w2) (hn₀ : n₀ ≤ W.heap.size) (hm : n₀ ≤ mb) (hmap : w2.heap[mb]? = some (.map es cl)) (O : Obj) {B : Nat} (hB : mb < B) :
    KeepsFrom B W (Go.Pat.setObjW w2 mb O) ∧ KpM n₀ W (Go.Pat.setObjW w2 mb O) := by
  refine ⟨⟨?_, fun k o hk ho hc => ?_⟩, below_setObjW (h2.mono hn₀) hm O, fun k cur t ht hk => ?_⟩
  · simpa [Go.Pat.setObjW] using h2.size
  · rw [setObjW_other _ _ _ _ (by omega)]
    exact (h2.block k (Array.getElem?_eq_some_iff.1 ho).1).trans ho
  · have h3 : w2.heap[k]? = some (Obj.cells cur t (0, 0)) := (h2.block k (Array.getElem?_eq_some_iff.1 hk).1).trans hk
    rw [setObjW_other _ _ _ _ (fun e => by subst e; rw [hmap] at h3; cases h3)]
    exact h3

attribute [local go_sem] Oper.semAt_some

set_option maxRecDepth 100000 in
set_option maxHeartbeats 4000000 in
theorem Clone_in (n : Nat) (hn : 8 ≤ n) (q : Option Addr) (fs : List Fr) (hlen : fs.length ≤ 90000) (w : World) (hM : MemN w.heap.size w q fs) :
    CallsIn Fence.wide n Go.Proofs.Try.prog 45 #[.pointer q] w fun e w' => ∃ p mb gs, e = .returned (.pointer (some ⟨p, 0, none⟩)) ∧ MemAt w' p mb gs ∧ w.heap.size ≤ p ∧ w.heap.size ≤ mb ∧ (∀ f ∈ gs, w.heap.size ≤ f.blk) ∧ gs.map Fr.pg = (sortF fs).map Fr.pg ∧ Below w.heap.size w w' := by
  have h1 : 1 ≤ n := by omega
  have hf : Fence.wide.fn 45 := trivial
  have hf2 : Fence.wide.fn 82 := trivial
  have hf3 : Fence.wide.fn 94 := trivial
  have hf4 : Fence.wide.fn 56 := trivial
  have hf5 : Fence.wide.fn 54 := trivial
  refine callsIn_of_wp_marks Go.Proofs.Try.func45 rfl hf ?_ rfl
  simp only [Go.Proofs.Try.ntmps45, List.size_toArray, List.length_cons, List.length_nil, Nat.reduceAdd, Nat.reduceSub, Array.replicate_succ, Array.replicate_zero, List.push_toArray, List.append_toArray, List.nil_append, List.cons_append]
  gi_wp2_with (first
    | (gi_at_call 54; refine (callsIn_wide (n := n - 1).2 (New_any w)).mono ?_; rintro e w1 ⟨p, mb, rfl, hN, hBn, hp, hmb⟩)
    | (gi_at_call 82; refine (all_in (n - 1) q _).mono ?_; rintro e w' ⟨rfl, rfl⟩))
  have bO := (Boxed.new w1 26 (.pointer (some ⟨p, 0, none⟩))).alloc (.cells #[.pointer q] 26)
  have bN := Boxed.new (w1.alloc (.cells #[.pointer (some ⟨p, 0, none⟩)] 26)) 26 (.pointer q)
  rw [World.size_alloc] at bN
  have hb1 : Below w1.heap.size w1 ((w1.alloc (.cells #[.pointer (some ⟨p, 0, none⟩)] 26)).alloc (.cells #[.pointer q] 26)) := ((Below.refl _ _).alloc (Nat.le_refl _) _).alloc (by simp) _
  have hsz : ((w1.alloc (.cells #[.pointer (some ⟨p, 0, none⟩)] 26)).alloc (.cells #[.pointer q] 26)).heap.size = w1.heap.size + 2 := by simp
  obtain ⟨W0, hW0⟩ : ∃ W0, (w1.alloc (.cells #[.pointer (some ⟨p, 0, none⟩)] 26)).alloc (.cells #[.pointer q] 26) = W0 := ⟨_, rfl⟩
  rw [hW0] at bO bN hb1 hsz ⊢
  clear hW0
  have hs1 := hBn.size
  have hB0 : Below w.heap.size w W0 := hBn.trans (hb1.mono hs1)
  have hN0 : MemAt W0 p mb [] := hN.below hN.lt hb1
  have hpl := hN.lt.1
  have hml := hN.lt.2.1
  have hpm := hN.p_ne_mb
  have hmB : mb < W0.heap.size := by omega
  clear hN hb1
  refine wpIn_rangeFunc_ownH rfl h1 (gf := 94) (lb := #[.pointer (some ⟨w1.heap.size + 1, 0, none⟩)]) rfl hf3 (enters_of Go.Proofs.Try.func94 (by kernel_rfl) rfl)
    (all_stops (n - 1) (by omega) (w1.heap.size + 1) w.heap.size q fs W0 (by omega) (by omega) bN (hM.below hB0)) kpM_t (kpM_b (by omega)) (Below.refl _ _) (fun _ => rfl)
    (fun pre W => (ClnBox w.heap.size p mb W (pre.map (·.1.base)) (pre.map (·.1.pg)) ∧ Boxed W w1.heap.size 26 (.pointer (some ⟨p, 0, none⟩))) ∧ Below w.heap.size w W)
    (fun _ _ _ => False)
    (OwnFrom.and (OwnFrom.and (clnBox_own _ _ _ _ hmB _ _) (Own.from (boxed_own _ _ _) _)) (ownFrom_below (by omega) (by omega)))
    (fun _ _ _ _ _ hs _ _ => hs)
    ⟨⟨⟨[], hN0, by simp, fun _ => rfl⟩, bO⟩, hB0⟩
    (fun x a' W => ∃ Bx, w1.heap.size < Bx ∧ W.heap[Bx]? = some (Obj.cells #[.int .i64 x.1.perm, .slice (some ⟨x.1.blk, 0, none⟩) 4096 x.1.cap] 102 (0, 0)) ∧
      a' = { tmps := #[.pointer q, undef, .pointer none, .pointer (some ⟨w1.heap.size, 0, none⟩), .int .u64 (x.1.base : Int), .pointer (some ⟨Bx, 0, none⟩), .pointer (some ⟨p, 0, none⟩), .pointer q, .func (.func 94) #[] #[.pointer (some ⟨w1.heap.size + 1, 0, none⟩)], .int .u64 (x.1.base : Int), .agg #[.int .i64 x.1.perm, .slice (some ⟨x.1.blk, 0, none⟩) 4096 x.1.cap], undef, undef, undef, undef, undef, undef, undef, undef, undef, undef, undef, undef], defers := [] })
    (fun x a' _ X Y row hs hg hr => by
      obtain ⟨Bx, h1, h2, h3⟩ := hs
      exact ⟨Bx, h1, (hg.block Bx (lt_of_block h2) (fun e => by obtain ⟨_, o, ho, hc⟩ := hr Bx e.symm; rw [h2] at ho; cases ho; cases hc)).trans h2, h3⟩)
    ?assign ?body ?done ?stop
  case assign =>
    rintro l pre x W K ⟨⟨bP, bW⟩, hB⟩ hK
    gi_wp2
    have hlB : w1.heap.size < W.heap.size := bW.lt
    obtain ⟨gs, hMg, hge, hrel⟩ := bP
    exact hK _ _ ((KeepsOthers.alloc _ _).from _) ⟨(Below.refl _ W).alloc hB.size _, .below ((Below.refl _ W).alloc (Nat.le_refl _) _)⟩ ⟨⟨⟨gs, hMg.below hMg.lt ((Below.refl _ W).alloc (Nat.le_refl _) _), hge, hrel⟩, bW.alloc _⟩, hB.alloc hB.size _⟩ ⟨W.heap.size, hlB, World.alloc_heap_new W _, rfl⟩
  case body =>
    rintro l pre x a' W hl ⟨r, hr⟩ ⟨⟨⟨gs, hMg, hge, hrel⟩, bW⟩, hB⟩ ⟨Bx, hBx, bX, rfl⟩ hlt
    obtain ⟨p0, mb0, hMa, hMb⟩ : ∃ p0 mb0, MemAt W p0 mb0 fs ∧ MemBelow w.heap.size p0 mb0 fs := by
      rcases hM.below hB with ⟨_, e⟩ | ⟨p0, mb0, _, h2, h3⟩
      · subst e; exact absurd x.2 (by simp)
      · exact ⟨p0, mb0, h2, h3⟩
    have hF := hMa.pages x.1 x.2
    have hsm := hMa.small x.1 x.2
    have hbs : Bs W.drew.heap.size W.drew (some ⟨x.1.blk, 0, none⟩) x.1.data := FrIn.bs (w := W.drew) hF hF.lt
    have hMd : MemAt W.drew p mb gs := hMg.keep rfl rfl (fun _ _ => rfl)
    have hv0 : W.drew.cell? ⟨w1.heap.size, 0, none⟩ = some (.pointer (some ⟨p, 0, none⟩)) := bW.cell
    have hp0 : W.drew.cell? ⟨p, 0, none⟩ = some (.map (some mb)) := hMd.cell
    have hx0 : W.drew.cell? ⟨Bx, 0, none⟩ = some (.int .i64 x.1.perm) := by rw [cell_of_row W.drew Bx 0 _ _ _ bX]; rfl
    have hx1 : W.drew.cell? ⟨Bx, 1, none⟩ = some (.slice (some ⟨x.1.blk, 0, none⟩) 4096 x.1.cap) := by rw [cell_of_row W.drew Bx 1 _ _ _ bX]; rfl
    have hBxl : Bx < W.drew.heap.size := lt_of_block bX
    have hWl : w1.heap.size < W.drew.heap.size := bW.lt
    have hpW : p < W.drew.heap.size := hMd.lt.1
    gi_wp2
    refine wpIn_region_heldR (S := fun w' => w'.cell? ⟨Bx, 0, none⟩ = some (.int .i64 x.1.perm) ∧ w'.cell? ⟨Bx, 1, none⟩ = some (.slice (some ⟨x.1.blk, 0, none⟩) 4096 x.1.cap) ∧ w'.cell? ⟨w1.heap.size, 0, none⟩ = some (.pointer (some ⟨p, 0, none⟩)) ∧ w'.cell? ⟨p, 0, none⟩ = some (.map (some mb))) (by kernel_rfl) (by kernel_rfl) (fun ⟨_, _, h⟩ => h) ⟨hx0, hx1, hv0, hp0⟩ (fun hS => ?_)
    refine wpAnyH_take (i := 0) (v := .pointer (some ⟨p, 0, none⟩)) rfl (by kernel_rfl) (by kernel_rfl) (by kernel_rfl) (fun _ _ _ h => h) (Or.inl ⟨by rfl, fun w' hS' => by obtain ⟨h1, h2, h3, h4⟩ := hS'; go_simp⟩) hS ?_
    refine wpAnyH_take (i := 1) (v := .pointer (some ⟨p, 0, none⟩)) rfl (by kernel_rfl) (by kernel_rfl) (by kernel_rfl) (fun _ _ _ h => h) (Or.inl ⟨by rfl, fun w' _ => by go_simp⟩) hS ?_
    refine wpAnyH_take (i := 2) (v := .pointer (some ⟨p, 0, none⟩)) rfl (by kernel_rfl) (by kernel_rfl) (by kernel_rfl) (fun _ _ _ h => h) (Or.inl ⟨by rfl, fun w' _ => by go_simp⟩) hS ?_
    refine wpAnyH_take (i := 3) (v := .map (some mb)) rfl (by kernel_rfl) (by kernel_rfl) (by kernel_rfl) (fun _ _ _ h => h) (Or.inl ⟨by rfl, fun w' hS' => by obtain ⟨h1, h2, h3, h4⟩ := hS'; go_simp⟩) hS ?_
    refine wpAnyH_take (i := 4) (v := .int .u64 (x.1.base : Int)) rfl (by kernel_rfl) (by kernel_rfl) (by kernel_rfl) (fun _ _ _ h => h) (Or.inl ⟨by rfl, fun w' _ => by go_simp⟩) hS ?_
    refine wpAnyH_take (i := 5) (v := .pointer (some ⟨Bx, 0, none⟩)) rfl (by kernel_rfl) (by kernel_rfl) (by kernel_rfl) (fun _ _ _ h => h) (Or.inl ⟨by rfl, fun w' _ => by go_simp⟩) hS ?_
    refine wpAnyH_take (i := 6) (v := .int .i64 x.1.perm) rfl (by kernel_rfl) (by kernel_rfl) (by kernel_rfl) (fun _ _ _ h => h) (Or.inl ⟨by rfl, fun w' hS' => by obtain ⟨h1, h2, h3, h4⟩ := hS'; go_simp⟩) hS ?_
    refine wpAnyH_take (i := 7) (v := .pointer (some ⟨Bx, 1, none⟩)) rfl (by kernel_rfl) (by kernel_rfl) (by kernel_rfl) (fun _ _ _ h => h) (Or.inl ⟨by rfl, fun w' _ => by go_simp⟩) hS ?_
    refine wpAnyH_take (i := 8) (v := .slice (some ⟨x.1.blk, 0, none⟩) 4096 x.1.cap) rfl (by kernel_rfl) (by kernel_rfl) (by kernel_rfl) (fun _ _ _ h => h) (Or.inl ⟨by rfl, fun w' hS' => by obtain ⟨h1, h2, h3, h4⟩ := hS'; go_simp⟩) hS ?_
    refine wpAnyH_ready (rs := [9]) (by kernel_rfl) (by simp) ?_
    refine AllReadyH.cons rfl (fun K hK => ?_) AllReadyH.nil
    go_simp
    refine Calls.mono (bclone_n W.drew ⟨x.1.blk, 0, none⟩ 4096 x.1.cap x.1.data hF.1 hbs (by omega)) ?_
    rintro e w2 ⟨v2, rfl, hown2, hne2, hb2⟩
    have hM2 : MemAt w2 p mb gs := hMd.below hMd.lt hb2
    obtain ⟨g, cap, O, gs2, rfl, hgB, hup, hM3, hsub, hrel2⟩ := clone_put (perm := x.1.perm) hM2 hown2 hF.1 hMd.lt.2.2 hsm
    have hS2 : w2.cell? ⟨Bx, 0, none⟩ = some (.int .i64 x.1.perm) ∧ w2.cell? ⟨Bx, 1, none⟩ = some (.slice (some ⟨x.1.blk, 0, none⟩) 4096 x.1.cap) ∧ w2.cell? ⟨w1.heap.size, 0, none⟩ = some (.pointer (some ⟨p, 0, none⟩)) ∧ w2.cell? ⟨p, 0, none⟩ = some (.map (some mb)) :=
      ⟨(hb2.cell (p := ⟨Bx, 0, none⟩) hBxl).trans hx0, (hb2.cell (p := ⟨Bx, 1, none⟩) hBxl).trans hx1, (hb2.cell (p := ⟨w1.heap.size, 0, none⟩) hWl).trans hv0, (hb2.cell (p := ⟨p, 0, none⟩) hpW).trans hp0⟩
    refine hK.out _ _ hS2 (fun hS => ?_)
    clear hK K hne2
    refine wpAnyH_take (i := 10) (v := .agg #[.int .i64 x.1.perm, .slice (some ⟨g, 0, none⟩) 4096 cap]) rfl (by kernel_rfl) (by kernel_rfl) (by kernel_rfl) (fun _ _ _ h => h) (Or.inl ⟨by rfl, fun w' _ => by go_simp⟩) hS ?_
    refine wpAnyH_ready (rs := [11]) (by kernel_rfl) (by simp) ?_
    refine AllReadyH.cons rfl (fun K hK => ?_) AllReadyH.nil
    go_simp
    have hn1 : Bx ≠ mb := by omega
    have hn2 : w1.heap.size ≠ mb := by omega
    refine hK.out _ _ ⟨(World.cell?_of_block (setObjW_other _ _ _ _ hn1)).trans hS2.1, (World.cell?_of_block (setObjW_other _ _ _ _ hn1)).trans hS2.2.1, (World.cell?_of_block (setObjW_other _ _ _ _ hn2)).trans hS2.2.2.1, (World.cell?_of_block (setObjW_other _ _ _ _ hpm)).trans hS2.2.2.2⟩ (fun hS => ?_)
    clear hK K
    refine wpAnyH_done (by kernel_rfl) ?_ _
    have hBW : Below W.heap.size W w2 := (Below.refl _ W).drew.trans hb2
    obtain ⟨f1, f2⟩ := kptBelow_setObj hBW hB.size hmb hM2.map O hmB
    have hbW3 : Boxed (Go.Pat.setObjW w2 mb O) w1.heap.size 26 (.pointer (some ⟨p, 0, none⟩)) := f2.2 _ _ _ (.inr rfl) bW
    refine ⟨f1, f2, ⟨⟨gs2, hM3, fun f hf => ?_, fun hnd => ?_⟩, hbW3⟩, hB.trans f2.1⟩
    · rcases hsub f hf with h | h
      · exact hge f h
      · have h2 : W.drew.heap.size ≤ g := hgB
        have h3 : W.heap.size ≤ g := h2
        have := hB.size
        omega
    · rw [List.map_append] at hnd ⊢
      have hnd2 := List.nodup_append.1 hnd
      have hr := hrel hnd2.1
      have hnot : x.1.base ∉ gs.map (·.base) := by
        have e1 : gs.map (·.base) = pre.map (·.1.base) := by
          have := congrArg (List.map Pgd.base) hr
          rw [List.map_map, List.map_map] at this
          exact this
        rw [e1]
        intro hm
        exact hnd2.2.2 _ hm x.1.base (by simp) rfl
      rw [hrel2 hnot, hr]
      rfl
  case done =>
    rintro D ys W hD hS ⟨⟨⟨gs, hMg, hge, hrel⟩, bW⟩, hB⟩ hK
    have hc := bW.cell
    have hend : gs.map Fr.pg = (sortF fs).map Fr.pg := by
      have h3 : ((sortF fs).map (·.base)).Nodup := by
        rcases hM with ⟨_, e⟩ | ⟨_, _, _, h2, _⟩
        · subst e; simp [sortF]
        · exact ((sortF_perm fs).map _).nodup_iff.2 h2.keys
      have h4 : ys.map (·.1.base) = (sortF fs).map (·.base) := by rw [← hS, List.map_map]; rfl
      rw [hrel (h4 ▸ h3), ← hS, List.map_map]
      rfl
    gi_wp2
    refine ⟨by simp, .inl ⟨_, _, rfl, run_takeDeferred hK, ?_⟩⟩
    exact ⟨_, results_tmp rfl _ _ _, p, mb, gs, rfl, hMg.keepNC hmB (grownBy_putObj' _ D _) (fun r e => by cases e; exact ⟨hD, _, hK, rfl⟩), hp, hmb, hge, hend, hB.trans (belowK_b (w := w) (Nat.le_refl _) W D _ _ (by omega) hK rfl rfl)⟩
  case stop =>
    rintro D c pre W _ _ h _
    exact h.elim

theorem Clone_any (q : Option Addr) (fs : List Fr) (hlen : fs.length ≤ 90000) (w : World) (hM : MemN w.heap.size w q fs) :
    Calls Go.Proofs.Try.prog 45 #[.pointer q] w fun e w' => ∃ p mb gs, e = .returned (.pointer (some ⟨p, 0, none⟩)) ∧ MemAt w' p mb gs ∧ w.heap.size ≤ p ∧ w.heap.size ≤ mb ∧ (∀ f ∈ gs, w.heap.size ≤ f.blk) ∧ gs.map Fr.pg = (sortF fs).map Fr.pg ∧ Below w.heap.size w w' :=
  callsIn_wide.1 (Clone_in 8 (Nat.le_refl _) q fs hlen w hM)
end Go.Pat
