/- The items of patina/rt. -/
import Derived.Test.YtlhenglopnipaaaGreatDoorItemA
import Derived.Test.YtlhenglopnipaaaGreatDoorBufs
import Derived.Deep.RegionHeld3
namespace Go.Pat
open Go Go.RowKit
def printL : List It := [
  ⟨1, ⟨#[114, 116, 46, 112, 114, 105, 110, 116]⟩, 0, 0, 0, 0, 0⟩,
  ⟨2, no, 35, 5, 10, 0, 0⟩,
  ⟨7, ⟨#[114, 116, 46, 100, 105, 103, 105, 116, 115]⟩, 8, 0, 5, 0, 0⟩,
  ⟨2, no, 36, 5, 0, 5, 0⟩,
  ⟨3, no, 0, 10, 0, 0, 45⟩,
  ⟨3, no, 0, 17, 0, 0, 64⟩,
  ⟨2, no, 64, 0, 0, 0, 0⟩,
  ⟨1, ⟨#[114, 116, 46, 100, 105, 103, 105, 116, 115]⟩, 0, 0, 0, 0, 0⟩,
  ⟨4, ⟨#[114, 116, 46, 101, 110, 100]⟩, 0, 28, 0, 0, 0⟩,
  ⟨3, no, 0, 6, 0, 0, 10⟩,
  ⟨1, ⟨#[114, 116, 46, 100, 105, 103, 105, 116]⟩, 0, 0, 0, 0, 0⟩,
  ⟨2, no, 57, 7, 5, 6, 0⟩,
  ⟨2, no, 55, 5, 5, 6, 0⟩,
  ⟨2, no, 22, 7, 7, 0, 48⟩,
  ⟨2, no, 22, 28, 28, 0, (-1)⟩,
  ⟨2, no, 18, 0, 28, 7, 0⟩,
  ⟨7, ⟨#[114, 116, 46, 100, 105, 103, 105, 116]⟩, 6, 0, 5, 0, 0⟩,
  ⟨4, ⟨#[114, 116, 46, 101, 110, 100]⟩, 0, 29, 0, 0, 0⟩,
  ⟨1, ⟨#[114, 116, 46, 111, 117, 116]⟩, 0, 0, 0, 0, 0⟩,
  ⟨2, no, 15, 10, 28, 0, 0⟩,
  ⟨3, no, 0, 17, 0, 0, 64⟩,
  ⟨2, no, 64, 0, 0, 0, 0⟩,
  ⟨2, no, 22, 28, 28, 0, 1⟩,
  ⟨7, ⟨#[114, 116, 46, 111, 117, 116]⟩, 6, 0, 28, 29, 0⟩,
  ⟨3, no, 0, 10, 0, 0, 10⟩,
  ⟨3, no, 0, 17, 0, 0, 64⟩,
  ⟨2, no, 64, 0, 0, 0, 0⟩,
  ⟨3, no, 0, 10, 0, 0, 0⟩,
  ⟨2, no, 4, 0, 1, 0, 0⟩]
def allocL : List It := [
  ⟨1, ⟨#[114, 116, 46, 97, 108, 108, 111, 99]⟩, 0, 0, 0, 0, 0⟩,
  ⟨3, no, 0, 5, 0, 0, 64⟩,
  ⟨7, ⟨#[114, 116, 46, 102, 117, 108, 108]⟩, 9, 0, 5, 10, 0⟩,
  ⟨4, ⟨#[114, 116, 46, 108, 105, 115, 116]⟩, 0, 5, 0, 0, 0⟩,
  ⟨2, no, 14, 6, 5, 0, 0⟩,
  ⟨7, ⟨#[114, 116, 46, 102, 114, 101, 115, 104]⟩, 5, 0, 6, 0, 0⟩,
  ⟨2, no, 14, 7, 6, 0, 0⟩,
  ⟨2, no, 21, 0, 5, 7, 0⟩,
  ⟨5, ⟨#[114, 116, 46, 99, 108, 101, 97, 114]⟩, 0, 0, 0, 0, 0⟩,
  ⟨1, ⟨#[114, 116, 46, 102, 114, 101, 115, 104]⟩, 0, 0, 0, 0, 0⟩,
  ⟨4, ⟨#[114, 116, 46, 117, 115, 101, 100]⟩, 0, 5, 0, 0, 0⟩,
  ⟨2, no, 14, 7, 5, 0, 0⟩,
  ⟨3, no, 0, 28, 0, 0, 256⟩,
  ⟨7, ⟨#[114, 116, 46, 102, 117, 108, 108]⟩, 10, 0, 7, 28, 0⟩,
  ⟨2, no, 22, 28, 7, 0, 1⟩,
  ⟨2, no, 21, 0, 5, 28, 0⟩,
  ⟨2, no, 28, 7, 7, 0, 9⟩,
  ⟨4, ⟨#[114, 116, 46, 98, 108, 111, 99, 107, 115]⟩, 0, 6, 0, 0, 0⟩,
  ⟨2, no, 35, 6, 6, 7, 0⟩,
  ⟨1, ⟨#[114, 116, 46, 99, 108, 101, 97, 114]⟩, 0, 0, 0, 0, 0⟩,
  ⟨2, no, 35, 28, 6, 0, 0⟩,
  ⟨1, ⟨#[114, 116, 46, 119, 111, 114, 100]⟩, 0, 0, 0, 0, 0⟩,
  ⟨7, ⟨#[114, 116, 46, 116, 111, 108, 100]⟩, 5, 0, 10, 0, 0⟩,
  ⟨2, no, 21, 0, 28, 0, 0⟩,
  ⟨2, no, 22, 28, 28, 0, 8⟩,
  ⟨2, no, 22, 10, 10, 0, (-1)⟩,
  ⟨5, ⟨#[114, 116, 46, 119, 111, 114, 100]⟩, 0, 0, 0, 0, 0⟩,
  ⟨1, ⟨#[114, 116, 46, 116, 111, 108, 100]⟩, 0, 0, 0, 0, 0⟩,
  ⟨2, no, 35, 10, 6, 0, 0⟩,
  ⟨2, no, 4, 0, 1, 0, 0⟩,
  ⟨1, ⟨#[114, 116, 46, 102, 117, 108, 108]⟩, 0, 0, 0, 0, 0⟩,
  ⟨3, no, 0, 10, 0, 0, 110⟩,
  ⟨3, no, 0, 17, 0, 0, 93⟩,
  ⟨2, no, 64, 0, 0, 0, 0⟩]
def startL : List It := [
  ⟨1, ⟨#[114, 116, 46, 115, 116, 97, 114, 116]⟩, 0, 0, 0, 0, 0⟩,
  ⟨3, no, 0, 2, 0, 0, 33816576⟩,
  ⟨3, no, 0, 3, 0, 0, 33554944⟩,
  ⟨6, ⟨#[102, 46, 109, 97, 105, 110]⟩, 0, 1, 0, 0, 0⟩,
  ⟨3, no, 0, 10, 0, 0, 0⟩,
  ⟨3, no, 0, 17, 0, 0, 93⟩,
  ⟨2, no, 64, 0, 0, 0, 0⟩]
def restL : List It := [
  ⟨1, ⟨#[114, 116, 46, 102, 114, 101, 101]⟩, 0, 0, 0, 0, 0⟩,
  ⟨4, ⟨#[114, 116, 46, 108, 105, 115, 116]⟩, 0, 5, 0, 0, 0⟩,
  ⟨2, no, 14, 6, 5, 0, 0⟩,
  ⟨2, no, 21, 0, 10, 6, 0⟩,
  ⟨2, no, 21, 0, 5, 10, 0⟩,
  ⟨3, no, 0, 10, 0, 0, 0⟩,
  ⟨2, no, 4, 0, 1, 0, 0⟩,
  ⟨1, ⟨#[114, 116, 46, 114, 101, 97, 100]⟩, 0, 0, 0, 0, 0⟩,
  ⟨3, no, 0, 17, 0, 0, 63⟩,
  ⟨2, no, 64, 0, 0, 0, 0⟩,
  ⟨2, no, 4, 0, 1, 0, 0⟩,
  ⟨1, ⟨#[114, 116, 46, 115, 116, 97, 99, 107]⟩, 0, 0, 0, 0, 0⟩,
  ⟨3, no, 0, 10, 0, 0, 111⟩,
  ⟨3, no, 0, 17, 0, 0, 93⟩,
  ⟨2, no, 64, 0, 0, 0, 0⟩]
def rtText : List It := startL ++ printL ++ allocL ++ restL
def rtData : List It := [
  ⟨1, ⟨#[114, 116, 46, 108, 105, 115, 116]⟩, 0, 0, 0, 0, 0⟩,
  ⟨8, no, 0, 0, 0, 0, 0⟩,
  ⟨1, ⟨#[114, 116, 46, 117, 115, 101, 100]⟩, 0, 0, 0, 0, 0⟩,
  ⟨8, no, 0, 0, 0, 0, 0⟩,
  ⟨9, no, 0, 0, 0, 0, 24⟩,
  ⟨1, ⟨#[114, 116, 46, 101, 110, 100]⟩, 0, 0, 0, 0, 0⟩,
  ⟨9, no, 0, 0, 0, 0, 8⟩,
  ⟨1, ⟨#[114, 116, 46, 98, 108, 111, 99, 107, 115]⟩, 0, 0, 0, 0, 0⟩,
  ⟨9, no, 0, 0, 0, 0, 131072⟩]
end Go.Pat

/- patina/rt: the builder of items: put, and what leans on it. -/
namespace Go.Pat
open Go Go.RowKit
theorem tcells_append (a b : List It) : tcells (a ++ b) = tcells a ++ tcells b := by
  induction a with
  | nil => rfl
  | cons x r ih => simp [tcells, ih]
theorem tcells_one (l : List It) : ∀ u ∈ tcells l, u.oneCell' = true := by
  induction l with
  | nil => intro u hu; cases hu
  | cons x r ih =>
    intro u hu
    simp only [tcells, List.mem_append] at hu
    rcases hu with h | h
    · simp only [It.cells, List.mem_cons, List.not_mem_nil, or_false] at h
      rcases h with rfl | rfl | rfl | rfl | rfl | rfl | rfl <;> rfl
    · exact ih u h
end Go.Pat
namespace Go.Proofs
open Go Go.RowKit Go.Pat
theorem Tryz_elTs : ElT Tryz.prog 24 28 (.agg #[.int .i64 0, .string no, .int .i64 0, .int .i64 0, .int .i64 0, .int .i64 0, .int .i64 0]) 7 64 := ⟨Tryz.underlying24, by kernel_rfl, rfl, by decide⟩
/-- items of the call's own. -/
def OwnT (w : World) (base : Nat) (v : Value) (l : List It) : Prop := w.ownsRow base 28 7 v l.length (tcells l)
theorem OwnT.form {w : World} {base : Nat} {v : Value} {l : List It} (h : OwnT w base v l) : ∃ A c, v = .slice A l.length c ∧ Cs w.heap.size w A (tcells l) := by
  rcases h.2 with ⟨rfl, h0⟩ | ⟨g, cap, cur, rfl, _, hh, hn, hm, hc, ht⟩
  · exact ⟨none, 0, by rw [h0], fun i hi => by rw [tcells_length] at hi; omega⟩
  · exact ⟨_, cap, rfl, Cs.of_own (c := cap) h⟩
theorem OwnT.keep {w w' : World} {base : Nat} {v : Value} {l : List It} (h : OwnT w base v l) (hb : ∀ g, v.ownBlock = some g → w'.heap[g]? = w.heap[g]?) : OwnT w' base v l := by
  refine ⟨h.1, ?_⟩
  rcases h.2 with h0 | ⟨g, cap, cur, rfl, hg, hh, r⟩
  · exact .inl h0
  · exact .inr ⟨g, cap, cur, rfl, hg, (hb g rfl).trans hh, r⟩
theorem OwnT.below {w w' : World} {base : Nat} {v : Value} {l : List It} (h : OwnT w base v l) (hb : Below w.heap.size w w') : OwnT w' base v l := h.keep fun g hg => hb.block g (h.lt g hg).2
theorem OwnT.base {w : World} {base b2 : Nat} {v : Value} {l : List It} (h : OwnT w base v l) (hb : b2 ≤ base) : OwnT w b2 v l := by
  refine ⟨h.1, ?_⟩
  rcases h.2 with h0 | ⟨g, cap, cur, hv, hg, r⟩
  · exact .inl h0
  · exact .inr ⟨g, cap, cur, hv, by omega, r⟩
theorem OwnT.nil (w : World) (base : Nat) : OwnT w base (.slice none 0 0) [] := ⟨rfl, .inl ⟨rfl, rfl⟩⟩
theorem OwnT.block {w : World} {base : Nat} {v : Value} {l : List It} (h : OwnT w base v l) {g : Nat} (hg : v.ownBlock = some g) : base ≤ g ∧ ∃ cur, w.heap[g]? = some (.cells cur 28 (0, 0)) := by
  rcases h.2 with ⟨rfl, _⟩ | ⟨g2, cap, cur, rfl, h1, hh, _⟩
  · cases hg
  · obtain rfl : g2 = g := by simpa [Value.ownBlock] using hg
    exact ⟨h1, cur, hh⟩
/-- what a builder writes: its own block, and blocks from B on. -/
def Wr (B b : Nat) (k : Nat) : Prop := k = b ∨ B ≤ k
/-- a builder in block b that holds items so far. -/
def Bld (B : Nat) (w : World) (b : Nat) (l : List It) : Prop := B ≤ w.heap.size ∧ ∃ v, w.heap[b]? = some (.cells #[v] 93 (0, 0)) ∧ OwnT w B v l
theorem Bld.below {B : Nat} {w w' : World} {b : Nat} {l : List It} (h : Bld B w b l) (hb : Below w.heap.size w w') : Bld B w' b l := by
  obtain ⟨h1, v, h2, h3⟩ := h
  exact ⟨Nat.le_trans h1 hb.size, v, (hb.block _ (lt_of_block h2)).trans h2, h3.below hb⟩
theorem Bld.lt {B : Nat} {w : World} {b : Nat} {l : List It} (h : Bld B w b l) : b < w.heap.size := by
  obtain ⟨-, v, h2, -⟩ := h
  exact lt_of_block h2
def PutTo (B b : Nat) (l : List It) (w : World) (e : Ending) (w' : World) : Prop := e = .returned (.tuple #[]) ∧ Bld B w' b l ∧ KeptBut (Wr B b) w w'
def BldTo (B b : Nat) (l : List It) (w : World) (e : Ending) (w' : World) : Prop := e = .returned (.pointer (some ⟨b, 0, none⟩)) ∧ Bld B w' b l ∧ KeptBut (Wr B b) w w'
theorem lit_it (w : World) (x : It) : Cs (w.alloc (.cells #[.int .i64 x.k, .string x.s, .int .i64 x.op, .int .i64 x.rd, .int .i64 x.a, .int .i64 x.b, .int .i64 x.n] 28)).heap.size (w.alloc (.cells #[.int .i64 x.k, .string x.s, .int .i64 x.op, .int .i64 x.rd, .int .i64 x.a, .int .i64 x.b, .int .i64 x.n] 28)) (some ⟨w.heap.size, 0, none⟩) (tcells [x]) := fun j hj => by
  refine ⟨w.heap.size, 0, rfl, by rw [World.size_alloc]; omega, ?_⟩
  have h2 : j < 7 := by simpa [tcells, It.cells] using hj
  rw [Nat.zero_add, cell_of_row _ _ j _ _ (0, 0) (heap_alloc_new w _)]
  simp [tcells, It.cells]
set_option maxRecDepth 20000 in
set_option maxHeartbeats 4000000 in
theorem rtput_any (B b : Nat) (l : List It) (x : It) (w : World) (hb : Bld B w b l) (hl : l.length < 100000) :
    Calls Tryz.prog 45 #[.pointer (some ⟨b, 0, none⟩), .agg #[.int .i64 x.k, .string x.s, .int .i64 x.op, .int .i64 x.rd, .int .i64 x.a, .int .i64 x.b, .int .i64 x.n]] w (PutTo B b (l ++ [x]) w) := by
  obtain ⟨hBb, v, hbx, hown⟩ := hb
  obtain ⟨A, c, rfl, -⟩ := hown.form
  have hbl := lt_of_block hbx
  obtain ⟨W, hW⟩ : ∃ W : World, W = w.alloc (.cells #[.int .i64 x.k, .string x.s, .int .i64 x.op, .int .i64 x.rd, .int .i64 x.a, .int .i64 x.b, .int .i64 x.n] 28) := ⟨_, rfl⟩
  have h1 : W.heap[w.heap.size]? = some (.cells #[.int .i64 x.k, .string x.s, .int .i64 x.op, .int .i64 x.rd, .int .i64 x.a, .int .i64 x.b, .int .i64 x.n] 28 (0, 0)) := by rw [hW]; exact heap_alloc_new w _
  have hB1 : Below w.heap.size w W := by rw [hW]; exact (Below.refl _ _).alloc (Nat.le_refl _) _
  have hw1 := lt_of_block h1
  have y0 : W.cell? ⟨b, 0, none⟩ = some (.slice A l.length c) := (hB1.cell (p := ⟨b, 0, none⟩) hbl).trans (obj_cell hbx 0)
  have z0 : W.cell? ⟨w.heap.size, 0, none⟩ = some (.int .i64 x.k) := obj_cell h1 0
  have z1 : W.cell? ⟨w.heap.size, 1, none⟩ = some (.string x.s) := obj_cell h1 1
  have z2 : W.cell? ⟨w.heap.size, 2, none⟩ = some (.int .i64 x.op) := obj_cell h1 2
  have z3 : W.cell? ⟨w.heap.size, 3, none⟩ = some (.int .i64 x.rd) := obj_cell h1 3
  have z4 : W.cell? ⟨w.heap.size, 4, none⟩ = some (.int .i64 x.a) := obj_cell h1 4
  have z5 : W.cell? ⟨w.heap.size, 5, none⟩ = some (.int .i64 x.b) := obj_cell h1 5
  have z6 : W.cell? ⟨w.heap.size, 6, none⟩ = some (.int .i64 x.n) := obj_cell h1 6
  have hb1 := (hB1.block _ hbl).trans hbx
  have l0 : ∀ o, (W.alloc o).cell? ⟨b, 0, none⟩ = some (.slice A l.length c) := fun o => (World.cell?_alloc_lt W _ ⟨b, 0, none⟩ (by show b < W.heap.size; omega)).trans y0
  have hown1 := hown.below hB1
  have HO := Lib.hid (fun o => hown1.below (w' := (W.alloc o).drew) ((Below.refl _ _).alloc (Nat.le_refl _) o).drew)
  have HLt := Lib.hid ((lit_it W x).below (Below.refl _ _).drew)
  have HNG := Lib.hid (show ∀ g, (Value.slice A l.length c).ownBlock = some g → B ≤ g from fun g hg => (hown1.block hg).1)
  have HNB := Lib.hid (show ∀ g, (Value.slice A l.length c).ownBlock = some g → g ≠ b from fun g hg e => by
    obtain ⟨_, cur, hcu⟩ := hown1.block hg
    rw [e, hb1] at hcu
    cases hcu)
  have HW := Lib.hid hW
  have HB1 := Lib.hid (And.intro hB1 (And.intro hb1 hl))
  clear hW h1 hbx hown hown1 hB1 hb1
  go_enter Tryz.func45, Tryz.ntmps45
  go_wp2_with fail
  rw [← HW.out]
  go_region_law (first
    | (refine step_app rfl (.tmp 8) (.tmp 10) 24 rfl Tryz_elTs B (.slice A l.length c) l.length (tcells l) (by exact rfl) (HO.out _) _ (some ⟨W.heap.size, 0, none⟩) 1 1 (tcells [x]) (by exact rfl) rfl HLt.out (tcells_one _) (by simp only [maxLen]; omega) (by omega) (by show B ≤ (W.alloc _).heap.size; rw [World.size_alloc]; omega) ?_
       intro v' w4 h4 hg4 hnil hat
       have hb4 := (hg4.block b (by show b < (W.alloc _).heap.size; rw [World.size_alloc]; omega) (fun e => HNB.out _ e.symm rfl)).trans ((Below.heap_alloc W _ b (by omega)).trans HB1.out.2.1)
       have k0 := obj_cell hb4 0
       have g0 := obj_frozen hb4 0
       obtain ⟨A3, c3, rfl, -⟩ := OwnT.form (l := l ++ [x]) (by unfold OwnT; rw [List.length_append, tcells_append]; exact h4)))
  all_goals
    go_wp2
    go_end0
    have ho4 : OwnT w4 B (.slice A3 (l ++ [x]).length c3) (l ++ [x]) := by
      unfold OwnT
      rw [show (l ++ [x]).length = l.length + 1 by simp] at h4 ⊢
      rw [tcells_append]
      exact h4
    have hs4 : B ≤ w4.heap.size := by
      have h1 := hg4.size
      have h2 : (W.alloc (.cells #[.int .i64 x.k, .string x.s, .int .i64 x.op, .int .i64 x.rd, .int .i64 x.a, .int .i64 x.b, .int .i64 x.n] 28)).heap.size ≤ w4.heap.size := h1
      rw [World.size_alloc] at h2
      omega
    refine ⟨rfl, ⟨by simpa [World.setCell] using hs4, .slice A3 (l ++ [x]).length c3, ?_, ?_⟩, ?_⟩
    · exact (obj_set hb4 0 _).trans (by simp)
    · exact ho4.keep fun g hg => Below.heap_setCell _ _ _ _ (by
        rintro rfl
        obtain ⟨_, cur, hcu⟩ := ho4.block hg
        rw [hb4] at hcu
        cases hcu)
    · have h5 : Below w.heap.size w W := HB1.out.1
      have h6 : KeptBut (Wr B b) w (W.alloc (.cells #[.int .i64 x.k, .string x.s, .int .i64 x.op, .int .i64 x.rd, .int .i64 x.a, .int .i64 x.b, .int .i64 x.n] 28)).drew := .of_below ((h5.alloc h5.size _).drew)
      exact KeptBut.setCell (h6.trans ⟨hg4.os, hg4.tape, hg4.output, hg4.size, fun k hk hn => hg4.block k hk (fun e => hn (.inr (HNG.out k e.symm)))⟩) _ (.inl rfl) _
end Go.Proofs

/- patina/rt: the small builders. -/
namespace Go.Proofs
open Go Go.RowKit Go.Pat
set_option maxRecDepth 20000 in
set_option maxHeartbeats 4000000 in
theorem rtlabel_any (B bk : Nat) (l : List It) (s : ByteArray) (w : World) (hb : Bld B w bk l) (hl : l.length < 90000) :
    Calls Tryz.prog 33 #[.pointer (some ⟨bk, 0, none⟩), .string s] w (BldTo B bk (l ++ [⟨1, s, 0, 0, 0, 0, 0⟩]) w) := by
  have hbl := hb.lt
  have HP := Lib.hid (rtput_any B bk l ⟨1, s, 0, 0, 0, 0, 0⟩ w hb (by omega))
  go_enter Tryz.func33, Tryz.ntmps33
  go_wp2_with fail
  refine Calls.mono HP.out ?_
  rintro e w1 ⟨rfl, hb1, hB1⟩
  go_wp2
  go_ret
  exact ⟨rfl, hb1, hB1⟩
set_option maxRecDepth 20000 in
set_option maxHeartbeats 4000000 in
theorem rtli_any (B bk : Nat) (l : List It) (rd n : Int) (w : World) (hb : Bld B w bk l) (hl : l.length < 90000) :
    Calls Tryz.prog 34 #[.pointer (some ⟨bk, 0, none⟩), .int .i64 rd, .int .i64 n] w (BldTo B bk (l ++ [⟨3, no, 0, rd, 0, 0, n⟩]) w) := by
  have hbl := hb.lt
  have HP := Lib.hid (rtput_any B bk l ⟨3, no, 0, rd, 0, 0, n⟩ w hb (by omega))
  go_enter Tryz.func34, Tryz.ntmps34
  go_wp2_with fail
  refine Calls.mono HP.out ?_
  rintro e w1 ⟨rfl, hb1, hB1⟩
  go_wp2
  go_ret
  exact ⟨rfl, hb1, hB1⟩
set_option maxRecDepth 20000 in
set_option maxHeartbeats 4000000 in
theorem rtla_any (B bk : Nat) (l : List It) (rd : Int) (s : ByteArray) (w : World) (hb : Bld B w bk l) (hl : l.length < 90000) :
    Calls Tryz.prog 39 #[.pointer (some ⟨bk, 0, none⟩), .int .i64 rd, .string s] w (BldTo B bk (l ++ [⟨4, s, 0, rd, 0, 0, 0⟩]) w) := by
  have hbl := hb.lt
  have HP := Lib.hid (rtput_any B bk l ⟨4, s, 0, rd, 0, 0, 0⟩ w hb (by omega))
  go_enter Tryz.func39, Tryz.ntmps39
  go_wp2_with fail
  refine Calls.mono HP.out ?_
  rintro e w1 ⟨rfl, hb1, hB1⟩
  go_wp2
  go_ret
  exact ⟨rfl, hb1, hB1⟩
set_option maxRecDepth 20000 in
set_option maxHeartbeats 4000000 in
theorem rtjump_any (B bk : Nat) (l : List It) (s : ByteArray) (w : World) (hb : Bld B w bk l) (hl : l.length < 90000) :
    Calls Tryz.prog 69 #[.pointer (some ⟨bk, 0, none⟩), .string s] w (BldTo B bk (l ++ [⟨5, s, 0, 0, 0, 0, 0⟩]) w) := by
  have hbl := hb.lt
  have HP := Lib.hid (rtput_any B bk l ⟨5, s, 0, 0, 0, 0, 0⟩ w hb (by omega))
  go_enter Tryz.func69, Tryz.ntmps69
  go_wp2_with fail
  refine Calls.mono HP.out ?_
  rintro e w1 ⟨rfl, hb1, hB1⟩
  go_wp2
  go_ret
  exact ⟨rfl, hb1, hB1⟩
set_option maxRecDepth 20000 in
set_option maxHeartbeats 4000000 in
theorem rtcall_any (B bk : Nat) (l : List It) (s : ByteArray) (w : World) (hb : Bld B w bk l) (hl : l.length < 90000) :
    Calls Tryz.prog 35 #[.pointer (some ⟨bk, 0, none⟩), .string s] w (BldTo B bk (l ++ [⟨6, s, 0, 1, 0, 0, 0⟩]) w) := by
  have hbl := hb.lt
  have HP := Lib.hid (rtput_any B bk l ⟨6, s, 0, 1, 0, 0, 0⟩ w hb (by omega))
  go_enter Tryz.func35, Tryz.ntmps35
  go_wp2_with fail
  refine Calls.mono HP.out ?_
  rintro e w1 ⟨rfl, hb1, hB1⟩
  go_wp2
  go_ret
  exact ⟨rfl, hb1, hB1⟩
set_option maxRecDepth 20000 in
set_option maxHeartbeats 4000000 in
theorem rtbranch_any (B bk : Nat) (l : List It) (op a b : Int) (s : ByteArray) (w : World) (hb : Bld B w bk l) (hl : l.length < 90000) :
    Calls Tryz.prog 66 #[.pointer (some ⟨bk, 0, none⟩), .int .i64 op, .int .i64 a, .int .i64 b, .string s] w (BldTo B bk (l ++ [⟨7, s, op, 0, a, b, 0⟩]) w) := by
  have hbl := hb.lt
  have HP := Lib.hid (rtput_any B bk l ⟨7, s, op, 0, a, b, 0⟩ w hb (by omega))
  go_enter Tryz.func66, Tryz.ntmps66
  go_wp2_with fail
  refine Calls.mono HP.out ?_
  rintro e w1 ⟨rfl, hb1, hB1⟩
  go_wp2
  go_ret
  exact ⟨rfl, hb1, hB1⟩
set_option maxRecDepth 20000 in
set_option maxHeartbeats 4000000 in
theorem rtdo_any (B bk : Nat) (l : List It) (op rd a c n : Int) (w : World) (hb : Bld B w bk l) (hl : l.length < 90000) :
    Calls Tryz.prog 43 #[.pointer (some ⟨bk, 0, none⟩), .agg #[.int .i64 op, .int .i64 rd, .int .i64 a, .int .i64 c, .int .i64 n]] w (BldTo B bk (l ++ [⟨2, no, op, rd, a, c, n⟩]) w) := by
  have hbl := hb.lt
  obtain ⟨W, hW⟩ : ∃ W : World, W = w.alloc (.cells #[.int .i64 op, .int .i64 rd, .int .i64 a, .int .i64 c, .int .i64 n] 26) := ⟨_, rfl⟩
  have h1 : W.heap[w.heap.size]? = some (.cells #[.int .i64 op, .int .i64 rd, .int .i64 a, .int .i64 c, .int .i64 n] 26 (0, 0)) := by rw [hW]; exact heap_alloc_new w _
  have hB1 : Below w.heap.size w W := by rw [hW]; exact (Below.refl _ _).alloc (Nat.le_refl _) _
  have z0 : W.cell? ⟨w.heap.size, 0, none⟩ = some (.int .i64 op) := obj_cell h1 0
  have z1 : W.cell? ⟨w.heap.size, 1, none⟩ = some (.int .i64 rd) := obj_cell h1 1
  have z2 : W.cell? ⟨w.heap.size, 2, none⟩ = some (.int .i64 a) := obj_cell h1 2
  have z3 : W.cell? ⟨w.heap.size, 3, none⟩ = some (.int .i64 c) := obj_cell h1 3
  have z4 : W.cell? ⟨w.heap.size, 4, none⟩ = some (.int .i64 n) := obj_cell h1 4
  have hw1 := lt_of_block h1
  have HP := Lib.hid (rtput_any B bk l ⟨2, no, op, rd, a, c, n⟩ W.drew (hb.below (hB1.drew)) (by omega))
  have HW := Lib.hid hW
  have HB := Lib.hid (show KeptBut (Wr B bk) w W.drew from .of_below hB1.drew)
  clear hW h1 hB1
  go_enter Tryz.func43, Tryz.ntmps43
  go_upto_region 1 with fail
  rw [← HW.out]
  go_region_law (go_simp
                 go_at_call 45
                 refine Calls.mono HP.out ?_
                 rintro e w1 ⟨rfl, hb1, hB1⟩)
  all_goals
    go_wp2
    go_ret
    exact ⟨rfl, hb1, HB.out.trans hB1⟩
set_option maxRecDepth 20000 in
set_option maxHeartbeats 4000000 in
theorem rtimm_any (B bk : Nat) (l : List It) (op rd a n : Int) (w : World) (hb : Bld B w bk l) (hl : l.length < 80000) :
    Calls Tryz.prog 68 #[.pointer (some ⟨bk, 0, none⟩), .int .i64 op, .int .i64 rd, .int .i64 a, .int .i64 n] w (BldTo B bk (l ++ [⟨2, no, op, rd, a, 0, n⟩]) w) := by
  have hbl := hb.lt
  go_enter Tryz.func68, Tryz.ntmps68
  go_wp2_with fail
  refine Calls.mono (rtdo_any B bk _ op rd a 0 n _ hb (by first | omega | (simp only [List.length_append, List.length_cons, List.length_nil]; omega))) ?_
  rintro e w0 ⟨rfl, hb0, hB0⟩
  have hC0 := hB0
  clear hB0
  go_wp2
  go_ret
  refine ⟨rfl, ?_, hC0⟩
  simpa using hb0
set_option maxRecDepth 20000 in
set_option maxHeartbeats 4000000 in
theorem rtreg_any (B bk : Nat) (l : List It) (op rd a c : Int) (w : World) (hb : Bld B w bk l) (hl : l.length < 80000) :
    Calls Tryz.prog 65 #[.pointer (some ⟨bk, 0, none⟩), .int .i64 op, .int .i64 rd, .int .i64 a, .int .i64 c] w (BldTo B bk (l ++ [⟨2, no, op, rd, a, c, 0⟩]) w) := by
  have hbl := hb.lt
  go_enter Tryz.func65, Tryz.ntmps65
  go_wp2_with fail
  refine Calls.mono (rtdo_any B bk _ op rd a c 0 _ hb (by first | omega | (simp only [List.length_append, List.length_cons, List.length_nil]; omega))) ?_
  rintro e w0 ⟨rfl, hb0, hB0⟩
  have hC0 := hB0
  clear hB0
  go_wp2
  go_ret
  refine ⟨rfl, ?_, hC0⟩
  simpa using hb0
set_option maxRecDepth 20000 in
set_option maxHeartbeats 4000000 in
theorem rtload_any (B bk : Nat) (l : List It) (rd at_ : Int) (w : World) (hb : Bld B w bk l) (hl : l.length < 80000) :
    Calls Tryz.prog 40 #[.pointer (some ⟨bk, 0, none⟩), .int .i64 rd, .int .i64 at_] w (BldTo B bk (l ++ [⟨2, no, 14, rd, at_, 0, 0⟩]) w) := by
  have hbl := hb.lt
  go_enter Tryz.func40, Tryz.ntmps40
  go_wp2_with fail
  refine Calls.mono (rtimm_any B bk _ 14 rd at_ 0 _ hb (by first | omega | (simp only [List.length_append, List.length_cons, List.length_nil]; omega))) ?_
  rintro e w0 ⟨rfl, hb0, hB0⟩
  have hC0 := hB0
  clear hB0
  go_wp2
  go_ret
  refine ⟨rfl, ?_, hC0⟩
  simpa using hb0
set_option maxRecDepth 20000 in
set_option maxHeartbeats 4000000 in
theorem rtstore_any (B bk : Nat) (l : List It) (v at_ : Int) (w : World) (hb : Bld B w bk l) (hl : l.length < 80000) :
    Calls Tryz.prog 41 #[.pointer (some ⟨bk, 0, none⟩), .int .i64 v, .int .i64 at_] w (BldTo B bk (l ++ [⟨2, no, 21, 0, at_, v, 0⟩]) w) := by
  have hbl := hb.lt
  go_enter Tryz.func41, Tryz.ntmps41
  go_wp2_with fail
  refine Calls.mono (rtdo_any B bk _ 21 0 at_ v 0 _ hb (by first | omega | (simp only [List.length_append, List.length_cons, List.length_nil]; omega))) ?_
  rintro e w0 ⟨rfl, hb0, hB0⟩
  have hC0 := hB0
  clear hB0
  go_wp2
  go_ret
  refine ⟨rfl, ?_, hC0⟩
  simpa using hb0
set_option maxRecDepth 20000 in
set_option maxHeartbeats 4000000 in
theorem rtback_any (B bk : Nat) (l : List It)  (w : World) (hb : Bld B w bk l) (hl : l.length < 80000) :
    Calls Tryz.prog 42 #[.pointer (some ⟨bk, 0, none⟩)] w (BldTo B bk (l ++ [⟨2, no, 4, 0, 1, 0, 0⟩]) w) := by
  have hbl := hb.lt
  go_enter Tryz.func42, Tryz.ntmps42
  go_wp2_with fail
  refine Calls.mono (rtimm_any B bk _ 4 0 1 0 _ hb (by first | omega | (simp only [List.length_append, List.length_cons, List.length_nil]; omega))) ?_
  rintro e w0 ⟨rfl, hb0, hB0⟩
  have hC0 := hB0
  clear hB0
  go_wp2
  go_ret
  refine ⟨rfl, ?_, hC0⟩
  simpa using hb0
set_option maxRecDepth 20000 in
set_option maxHeartbeats 4000000 in
theorem rtexit_any (B bk : Nat) (l : List It) (n : Int) (w : World) (hb : Bld B w bk l) (hl : l.length < 80000) :
    Calls Tryz.prog 36 #[.pointer (some ⟨bk, 0, none⟩), .int .i64 n] w (BldTo B bk (l ++ [⟨3, no, 0, 10, 0, 0, n⟩, ⟨3, no, 0, 17, 0, 0, 93⟩, ⟨2, no, 64, 0, 0, 0, 0⟩]) w) := by
  have hbl := hb.lt
  go_enter Tryz.func36, Tryz.ntmps36
  go_wp2_with fail
  refine Calls.mono (rtli_any B bk _ 10 n _ hb (by first | omega | (simp only [List.length_append, List.length_cons, List.length_nil]; omega))) ?_
  rintro e w0 ⟨rfl, hb0, hB0⟩
  have hC0 := hB0
  clear hB0
  go_wp2_with fail
  refine Calls.mono (rtli_any B bk _ 17 93 _ hb0 (by first | omega | (simp only [List.length_append, List.length_cons, List.length_nil]; omega))) ?_
  rintro e w1 ⟨rfl, hb1, hB1⟩
  have hC1 := hC0.trans hB1
  clear hb0 hC0 hB1
  go_wp2_with fail
  refine Calls.mono (rtdo_any B bk _ 64 0 0 0 0 _ hb1 (by first | omega | (simp only [List.length_append, List.length_cons, List.length_nil]; omega))) ?_
  rintro e w2 ⟨rfl, hb2, hB2⟩
  have hC2 := hC1.trans hB2
  clear hb1 hC1 hB2
  go_wp2
  go_ret
  refine ⟨rfl, ?_, hC2⟩
  simpa using hb2
set_option maxRecDepth 20000 in
set_option maxHeartbeats 4000000 in
theorem rtwrite_any (B bk : Nat) (l : List It)  (w : World) (hb : Bld B w bk l) (hl : l.length < 80000) :
    Calls Tryz.prog 67 #[.pointer (some ⟨bk, 0, none⟩)] w (BldTo B bk (l ++ [⟨3, no, 0, 17, 0, 0, 64⟩, ⟨2, no, 64, 0, 0, 0, 0⟩]) w) := by
  have hbl := hb.lt
  go_enter Tryz.func67, Tryz.ntmps67
  go_wp2_with fail
  refine Calls.mono (rtli_any B bk _ 17 64 _ hb (by first | omega | (simp only [List.length_append, List.length_cons, List.length_nil]; omega))) ?_
  rintro e w0 ⟨rfl, hb0, hB0⟩
  have hC0 := hB0
  clear hB0
  go_wp2_with fail
  refine Calls.mono (rtdo_any B bk _ 64 0 0 0 0 _ hb0 (by first | omega | (simp only [List.length_append, List.length_cons, List.length_nil]; omega))) ?_
  rintro e w1 ⟨rfl, hb1, hB1⟩
  have hC1 := hC0.trans hB1
  clear hb0 hC0 hB1
  go_wp2
  go_ret
  refine ⟨rfl, ?_, hC1⟩
  simpa using hb1
end Go.Proofs

/- patina/rt: print, alloc. -/
namespace Go.Proofs
open Go Go.RowKit Go.Pat
set_option maxRecDepth 20000 in
set_option maxHeartbeats 16000000 in
theorem rtprint_any (B bk : Nat) (l : List It) (w : World) (hb : Bld B w bk l) (hl : l.length < 70000) :
    Calls Tryz.prog 37 #[.pointer (some ⟨bk, 0, none⟩)] w (BldTo B bk (l ++ printL) w) := by
  have hbl := hb.lt
  go_enter Tryz.func37, Tryz.ntmps37
  go_wp2_with fail
  refine Calls.mono (rtlabel_any B bk _ ⟨#[114, 116, 46, 112, 114, 105, 110, 116]⟩ _ hb (by first | omega | (simp only [List.length_append, List.length_cons, List.length_nil]; omega))) ?_
  rintro e w0 ⟨rfl, hb0, hB0⟩
  have hC0 := hB0
  clear hB0
  go_wp2_with fail
  refine Calls.mono (rtreg_any B bk _ 35 5 10 0 _ hb0 (by first | omega | (simp only [List.length_append, List.length_cons, List.length_nil]; omega))) ?_
  rintro e w1 ⟨rfl, hb1, hB1⟩
  have hC1 := hC0.trans hB1
  clear hb0 hC0 hB1
  go_wp2_with fail
  refine Calls.mono (rtbranch_any B bk _ 8 5 0 ⟨#[114, 116, 46, 100, 105, 103, 105, 116, 115]⟩ _ hb1 (by first | omega | (simp only [List.length_append, List.length_cons, List.length_nil]; omega))) ?_
  rintro e w2 ⟨rfl, hb2, hB2⟩
  have hC2 := hC1.trans hB2
  clear hb1 hC1 hB2
  go_wp2_with fail
  refine Calls.mono (rtreg_any B bk _ 36 5 0 5 _ hb2 (by first | omega | (simp only [List.length_append, List.length_cons, List.length_nil]; omega))) ?_
  rintro e w3 ⟨rfl, hb3, hB3⟩
  have hC3 := hC2.trans hB3
  clear hb2 hC2 hB3
  go_wp2_with fail
  refine Calls.mono (rtli_any B bk _ 10 45 _ hb3 (by first | omega | (simp only [List.length_append, List.length_cons, List.length_nil]; omega))) ?_
  rintro e w4 ⟨rfl, hb4, hB4⟩
  have hC4 := hC3.trans hB4
  clear hb3 hC3 hB4
  go_wp2_with fail
  refine Calls.mono (rtwrite_any B bk _  _ hb4 (by first | omega | (simp only [List.length_append, List.length_cons, List.length_nil]; omega))) ?_
  rintro e w5 ⟨rfl, hb5, hB5⟩
  have hC5 := hC4.trans hB5
  clear hb4 hC4 hB5
  go_wp2_with fail
  refine Calls.mono (rtlabel_any B bk _ ⟨#[114, 116, 46, 100, 105, 103, 105, 116, 115]⟩ _ hb5 (by first | omega | (simp only [List.length_append, List.length_cons, List.length_nil]; omega))) ?_
  rintro e w6 ⟨rfl, hb6, hB6⟩
  have hC6 := hC5.trans hB6
  clear hb5 hC5 hB6
  go_wp2_with fail
  refine Calls.mono (rtla_any B bk _ 28 ⟨#[114, 116, 46, 101, 110, 100]⟩ _ hb6 (by first | omega | (simp only [List.length_append, List.length_cons, List.length_nil]; omega))) ?_
  rintro e w7 ⟨rfl, hb7, hB7⟩
  have hC7 := hC6.trans hB7
  clear hb6 hC6 hB7
  go_wp2_with fail
  refine Calls.mono (rtli_any B bk _ 6 10 _ hb7 (by first | omega | (simp only [List.length_append, List.length_cons, List.length_nil]; omega))) ?_
  rintro e w8 ⟨rfl, hb8, hB8⟩
  have hC8 := hC7.trans hB8
  clear hb7 hC7 hB8
  go_wp2_with fail
  refine Calls.mono (rtlabel_any B bk _ ⟨#[114, 116, 46, 100, 105, 103, 105, 116]⟩ _ hb8 (by first | omega | (simp only [List.length_append, List.length_cons, List.length_nil]; omega))) ?_
  rintro e w9 ⟨rfl, hb9, hB9⟩
  have hC9 := hC8.trans hB9
  clear hb8 hC8 hB9
  go_wp2_with fail
  refine Calls.mono (rtreg_any B bk _ 57 7 5 6 _ hb9 (by first | omega | (simp only [List.length_append, List.length_cons, List.length_nil]; omega))) ?_
  rintro e w10 ⟨rfl, hb10, hB10⟩
  have hC10 := hC9.trans hB10
  clear hb9 hC9 hB10
  go_wp2_with fail
  refine Calls.mono (rtreg_any B bk _ 55 5 5 6 _ hb10 (by first | omega | (simp only [List.length_append, List.length_cons, List.length_nil]; omega))) ?_
  rintro e w11 ⟨rfl, hb11, hB11⟩
  have hC11 := hC10.trans hB11
  clear hb10 hC10 hB11
  go_wp2_with fail
  refine Calls.mono (rtimm_any B bk _ 22 7 7 48 _ hb11 (by first | omega | (simp only [List.length_append, List.length_cons, List.length_nil]; omega))) ?_
  rintro e w12 ⟨rfl, hb12, hB12⟩
  have hC12 := hC11.trans hB12
  clear hb11 hC11 hB12
  go_wp2_with fail
  refine Calls.mono (rtimm_any B bk _ 22 28 28 (-1) _ hb12 (by first | omega | (simp only [List.length_append, List.length_cons, List.length_nil]; omega))) ?_
  rintro e w13 ⟨rfl, hb13, hB13⟩
  have hC13 := hC12.trans hB13
  clear hb12 hC12 hB13
  go_wp2_with fail
  refine Calls.mono (rtdo_any B bk _ 18 0 28 7 0 _ hb13 (by first | omega | (simp only [List.length_append, List.length_cons, List.length_nil]; omega))) ?_
  rintro e w14 ⟨rfl, hb14, hB14⟩
  have hC14 := hC13.trans hB14
  clear hb13 hC13 hB14
  go_wp2_with fail
  refine Calls.mono (rtbranch_any B bk _ 6 5 0 ⟨#[114, 116, 46, 100, 105, 103, 105, 116]⟩ _ hb14 (by first | omega | (simp only [List.length_append, List.length_cons, List.length_nil]; omega))) ?_
  rintro e w15 ⟨rfl, hb15, hB15⟩
  have hC15 := hC14.trans hB15
  clear hb14 hC14 hB15
  go_wp2_with fail
  refine Calls.mono (rtla_any B bk _ 29 ⟨#[114, 116, 46, 101, 110, 100]⟩ _ hb15 (by first | omega | (simp only [List.length_append, List.length_cons, List.length_nil]; omega))) ?_
  rintro e w16 ⟨rfl, hb16, hB16⟩
  have hC16 := hC15.trans hB16
  clear hb15 hC15 hB16
  go_wp2_with fail
  refine Calls.mono (rtlabel_any B bk _ ⟨#[114, 116, 46, 111, 117, 116]⟩ _ hb16 (by first | omega | (simp only [List.length_append, List.length_cons, List.length_nil]; omega))) ?_
  rintro e w17 ⟨rfl, hb17, hB17⟩
  have hC17 := hC16.trans hB17
  clear hb16 hC16 hB17
  go_wp2_with fail
  refine Calls.mono (rtimm_any B bk _ 15 10 28 0 _ hb17 (by first | omega | (simp only [List.length_append, List.length_cons, List.length_nil]; omega))) ?_
  rintro e w18 ⟨rfl, hb18, hB18⟩
  have hC18 := hC17.trans hB18
  clear hb17 hC17 hB18
  go_wp2_with fail
  refine Calls.mono (rtwrite_any B bk _  _ hb18 (by first | omega | (simp only [List.length_append, List.length_cons, List.length_nil]; omega))) ?_
  rintro e w19 ⟨rfl, hb19, hB19⟩
  have hC19 := hC18.trans hB19
  clear hb18 hC18 hB19
  go_wp2_with fail
  refine Calls.mono (rtimm_any B bk _ 22 28 28 1 _ hb19 (by first | omega | (simp only [List.length_append, List.length_cons, List.length_nil]; omega))) ?_
  rintro e w20 ⟨rfl, hb20, hB20⟩
  have hC20 := hC19.trans hB20
  clear hb19 hC19 hB20
  go_wp2_with fail
  refine Calls.mono (rtbranch_any B bk _ 6 28 29 ⟨#[114, 116, 46, 111, 117, 116]⟩ _ hb20 (by first | omega | (simp only [List.length_append, List.length_cons, List.length_nil]; omega))) ?_
  rintro e w21 ⟨rfl, hb21, hB21⟩
  have hC21 := hC20.trans hB21
  clear hb20 hC20 hB21
  go_wp2_with fail
  refine Calls.mono (rtli_any B bk _ 10 10 _ hb21 (by first | omega | (simp only [List.length_append, List.length_cons, List.length_nil]; omega))) ?_
  rintro e w22 ⟨rfl, hb22, hB22⟩
  have hC22 := hC21.trans hB22
  clear hb21 hC21 hB22
  go_wp2_with fail
  refine Calls.mono (rtwrite_any B bk _  _ hb22 (by first | omega | (simp only [List.length_append, List.length_cons, List.length_nil]; omega))) ?_
  rintro e w23 ⟨rfl, hb23, hB23⟩
  have hC23 := hC22.trans hB23
  clear hb22 hC22 hB23
  go_wp2_with fail
  refine Calls.mono (rtli_any B bk _ 10 0 _ hb23 (by first | omega | (simp only [List.length_append, List.length_cons, List.length_nil]; omega))) ?_
  rintro e w24 ⟨rfl, hb24, hB24⟩
  have hC24 := hC23.trans hB24
  clear hb23 hC23 hB24
  go_wp2_with fail
  refine Calls.mono (rtback_any B bk _  _ hb24 (by first | omega | (simp only [List.length_append, List.length_cons, List.length_nil]; omega))) ?_
  rintro e w25 ⟨rfl, hb25, hB25⟩
  have hC25 := hC24.trans hB25
  clear hb24 hC24 hB25
  go_wp2
  go_ret
  refine ⟨rfl, ?_, hC25⟩
  simpa only [printL, List.append_assoc, List.cons_append, List.nil_append] using hb25
set_option maxRecDepth 20000 in
set_option maxHeartbeats 16000000 in
theorem rtalloc_any (B bk : Nat) (l : List It) (w : World) (hb : Bld B w bk l) (hl : l.length < 70000) :
    Calls Tryz.prog 38 #[.pointer (some ⟨bk, 0, none⟩)] w (BldTo B bk (l ++ allocL) w) := by
  have hbl := hb.lt
  go_enter Tryz.func38, Tryz.ntmps38
  go_wp2_with fail
  refine Calls.mono (rtlabel_any B bk _ ⟨#[114, 116, 46, 97, 108, 108, 111, 99]⟩ _ hb (by first | omega | (simp only [List.length_append, List.length_cons, List.length_nil]; omega))) ?_
  rintro e w0 ⟨rfl, hb0, hB0⟩
  have hC0 := hB0
  clear hB0
  go_wp2_with fail
  refine Calls.mono (rtli_any B bk _ 5 64 _ hb0 (by first | omega | (simp only [List.length_append, List.length_cons, List.length_nil]; omega))) ?_
  rintro e w1 ⟨rfl, hb1, hB1⟩
  have hC1 := hC0.trans hB1
  clear hb0 hC0 hB1
  go_wp2_with fail
  refine Calls.mono (rtbranch_any B bk _ 9 5 10 ⟨#[114, 116, 46, 102, 117, 108, 108]⟩ _ hb1 (by first | omega | (simp only [List.length_append, List.length_cons, List.length_nil]; omega))) ?_
  rintro e w2 ⟨rfl, hb2, hB2⟩
  have hC2 := hC1.trans hB2
  clear hb1 hC1 hB2
  go_wp2_with fail
  refine Calls.mono (rtla_any B bk _ 5 ⟨#[114, 116, 46, 108, 105, 115, 116]⟩ _ hb2 (by first | omega | (simp only [List.length_append, List.length_cons, List.length_nil]; omega))) ?_
  rintro e w3 ⟨rfl, hb3, hB3⟩
  have hC3 := hC2.trans hB3
  clear hb2 hC2 hB3
  go_wp2_with fail
  refine Calls.mono (rtload_any B bk _ 6 5 _ hb3 (by first | omega | (simp only [List.length_append, List.length_cons, List.length_nil]; omega))) ?_
  rintro e w4 ⟨rfl, hb4, hB4⟩
  have hC4 := hC3.trans hB4
  clear hb3 hC3 hB4
  go_wp2_with fail
  refine Calls.mono (rtbranch_any B bk _ 5 6 0 ⟨#[114, 116, 46, 102, 114, 101, 115, 104]⟩ _ hb4 (by first | omega | (simp only [List.length_append, List.length_cons, List.length_nil]; omega))) ?_
  rintro e w5 ⟨rfl, hb5, hB5⟩
  have hC5 := hC4.trans hB5
  clear hb4 hC4 hB5
  go_wp2_with fail
  refine Calls.mono (rtload_any B bk _ 7 6 _ hb5 (by first | omega | (simp only [List.length_append, List.length_cons, List.length_nil]; omega))) ?_
  rintro e w6 ⟨rfl, hb6, hB6⟩
  have hC6 := hC5.trans hB6
  clear hb5 hC5 hB6
  go_wp2_with fail
  refine Calls.mono (rtstore_any B bk _ 7 5 _ hb6 (by first | omega | (simp only [List.length_append, List.length_cons, List.length_nil]; omega))) ?_
  rintro e w7 ⟨rfl, hb7, hB7⟩
  have hC7 := hC6.trans hB7
  clear hb6 hC6 hB7
  go_wp2_with fail
  refine Calls.mono (rtjump_any B bk _ ⟨#[114, 116, 46, 99, 108, 101, 97, 114]⟩ _ hb7 (by first | omega | (simp only [List.length_append, List.length_cons, List.length_nil]; omega))) ?_
  rintro e w8 ⟨rfl, hb8, hB8⟩
  have hC8 := hC7.trans hB8
  clear hb7 hC7 hB8
  go_wp2_with fail
  refine Calls.mono (rtlabel_any B bk _ ⟨#[114, 116, 46, 102, 114, 101, 115, 104]⟩ _ hb8 (by first | omega | (simp only [List.length_append, List.length_cons, List.length_nil]; omega))) ?_
  rintro e w9 ⟨rfl, hb9, hB9⟩
  have hC9 := hC8.trans hB9
  clear hb8 hC8 hB9
  go_wp2_with fail
  refine Calls.mono (rtla_any B bk _ 5 ⟨#[114, 116, 46, 117, 115, 101, 100]⟩ _ hb9 (by first | omega | (simp only [List.length_append, List.length_cons, List.length_nil]; omega))) ?_
  rintro e w10 ⟨rfl, hb10, hB10⟩
  have hC10 := hC9.trans hB10
  clear hb9 hC9 hB10
  go_wp2_with fail
  refine Calls.mono (rtload_any B bk _ 7 5 _ hb10 (by first | omega | (simp only [List.length_append, List.length_cons, List.length_nil]; omega))) ?_
  rintro e w11 ⟨rfl, hb11, hB11⟩
  have hC11 := hC10.trans hB11
  clear hb10 hC10 hB11
  go_wp2_with fail
  refine Calls.mono (rtli_any B bk _ 28 256 _ hb11 (by first | omega | (simp only [List.length_append, List.length_cons, List.length_nil]; omega))) ?_
  rintro e w12 ⟨rfl, hb12, hB12⟩
  have hC12 := hC11.trans hB12
  clear hb11 hC11 hB12
  go_wp2_with fail
  refine Calls.mono (rtbranch_any B bk _ 10 7 28 ⟨#[114, 116, 46, 102, 117, 108, 108]⟩ _ hb12 (by first | omega | (simp only [List.length_append, List.length_cons, List.length_nil]; omega))) ?_
  rintro e w13 ⟨rfl, hb13, hB13⟩
  have hC13 := hC12.trans hB13
  clear hb12 hC12 hB13
  go_wp2_with fail
  refine Calls.mono (rtimm_any B bk _ 22 28 7 1 _ hb13 (by first | omega | (simp only [List.length_append, List.length_cons, List.length_nil]; omega))) ?_
  rintro e w14 ⟨rfl, hb14, hB14⟩
  have hC14 := hC13.trans hB14
  clear hb13 hC13 hB14
  go_wp2_with fail
  refine Calls.mono (rtstore_any B bk _ 28 5 _ hb14 (by first | omega | (simp only [List.length_append, List.length_cons, List.length_nil]; omega))) ?_
  rintro e w15 ⟨rfl, hb15, hB15⟩
  have hC15 := hC14.trans hB15
  clear hb14 hC14 hB15
  go_wp2_with fail
  refine Calls.mono (rtimm_any B bk _ 28 7 7 9 _ hb15 (by first | omega | (simp only [List.length_append, List.length_cons, List.length_nil]; omega))) ?_
  rintro e w16 ⟨rfl, hb16, hB16⟩
  have hC16 := hC15.trans hB16
  clear hb15 hC15 hB16
  go_wp2_with fail
  refine Calls.mono (rtla_any B bk _ 6 ⟨#[114, 116, 46, 98, 108, 111, 99, 107, 115]⟩ _ hb16 (by first | omega | (simp only [List.length_append, List.length_cons, List.length_nil]; omega))) ?_
  rintro e w17 ⟨rfl, hb17, hB17⟩
  have hC17 := hC16.trans hB17
  clear hb16 hC16 hB17
  go_wp2_with fail
  refine Calls.mono (rtreg_any B bk _ 35 6 6 7 _ hb17 (by first | omega | (simp only [List.length_append, List.length_cons, List.length_nil]; omega))) ?_
  rintro e w18 ⟨rfl, hb18, hB18⟩
  have hC18 := hC17.trans hB18
  clear hb17 hC17 hB18
  go_wp2_with fail
  refine Calls.mono (rtlabel_any B bk _ ⟨#[114, 116, 46, 99, 108, 101, 97, 114]⟩ _ hb18 (by first | omega | (simp only [List.length_append, List.length_cons, List.length_nil]; omega))) ?_
  rintro e w19 ⟨rfl, hb19, hB19⟩
  have hC19 := hC18.trans hB19
  clear hb18 hC18 hB19
  go_wp2_with fail
  refine Calls.mono (rtreg_any B bk _ 35 28 6 0 _ hb19 (by first | omega | (simp only [List.length_append, List.length_cons, List.length_nil]; omega))) ?_
  rintro e w20 ⟨rfl, hb20, hB20⟩
  have hC20 := hC19.trans hB20
  clear hb19 hC19 hB20
  go_wp2_with fail
  refine Calls.mono (rtlabel_any B bk _ ⟨#[114, 116, 46, 119, 111, 114, 100]⟩ _ hb20 (by first | omega | (simp only [List.length_append, List.length_cons, List.length_nil]; omega))) ?_
  rintro e w21 ⟨rfl, hb21, hB21⟩
  have hC21 := hC20.trans hB21
  clear hb20 hC20 hB21
  go_wp2_with fail
  refine Calls.mono (rtbranch_any B bk _ 5 10 0 ⟨#[114, 116, 46, 116, 111, 108, 100]⟩ _ hb21 (by first | omega | (simp only [List.length_append, List.length_cons, List.length_nil]; omega))) ?_
  rintro e w22 ⟨rfl, hb22, hB22⟩
  have hC22 := hC21.trans hB22
  clear hb21 hC21 hB22
  go_wp2_with fail
  refine Calls.mono (rtstore_any B bk _ 0 28 _ hb22 (by first | omega | (simp only [List.length_append, List.length_cons, List.length_nil]; omega))) ?_
  rintro e w23 ⟨rfl, hb23, hB23⟩
  have hC23 := hC22.trans hB23
  clear hb22 hC22 hB23
  go_wp2_with fail
  refine Calls.mono (rtimm_any B bk _ 22 28 28 8 _ hb23 (by first | omega | (simp only [List.length_append, List.length_cons, List.length_nil]; omega))) ?_
  rintro e w24 ⟨rfl, hb24, hB24⟩
  have hC24 := hC23.trans hB24
  clear hb23 hC23 hB24
  go_wp2_with fail
  refine Calls.mono (rtimm_any B bk _ 22 10 10 (-1) _ hb24 (by first | omega | (simp only [List.length_append, List.length_cons, List.length_nil]; omega))) ?_
  rintro e w25 ⟨rfl, hb25, hB25⟩
  have hC25 := hC24.trans hB25
  clear hb24 hC24 hB25
  go_wp2_with fail
  refine Calls.mono (rtjump_any B bk _ ⟨#[114, 116, 46, 119, 111, 114, 100]⟩ _ hb25 (by first | omega | (simp only [List.length_append, List.length_cons, List.length_nil]; omega))) ?_
  rintro e w26 ⟨rfl, hb26, hB26⟩
  have hC26 := hC25.trans hB26
  clear hb25 hC25 hB26
  go_wp2_with fail
  refine Calls.mono (rtlabel_any B bk _ ⟨#[114, 116, 46, 116, 111, 108, 100]⟩ _ hb26 (by first | omega | (simp only [List.length_append, List.length_cons, List.length_nil]; omega))) ?_
  rintro e w27 ⟨rfl, hb27, hB27⟩
  have hC27 := hC26.trans hB27
  clear hb26 hC26 hB27
  go_wp2_with fail
  refine Calls.mono (rtreg_any B bk _ 35 10 6 0 _ hb27 (by first | omega | (simp only [List.length_append, List.length_cons, List.length_nil]; omega))) ?_
  rintro e w28 ⟨rfl, hb28, hB28⟩
  have hC28 := hC27.trans hB28
  clear hb27 hC27 hB28
  go_wp2_with fail
  refine Calls.mono (rtback_any B bk _  _ hb28 (by first | omega | (simp only [List.length_append, List.length_cons, List.length_nil]; omega))) ?_
  rintro e w29 ⟨rfl, hb29, hB29⟩
  have hC29 := hC28.trans hB29
  clear hb28 hC28 hB29
  go_wp2_with fail
  refine Calls.mono (rtlabel_any B bk _ ⟨#[114, 116, 46, 102, 117, 108, 108]⟩ _ hb29 (by first | omega | (simp only [List.length_append, List.length_cons, List.length_nil]; omega))) ?_
  rintro e w30 ⟨rfl, hb30, hB30⟩
  have hC30 := hC29.trans hB30
  clear hb29 hC29 hB30
  go_wp2_with fail
  refine Calls.mono (rtexit_any B bk _ 110 _ hb30 (by first | omega | (simp only [List.length_append, List.length_cons, List.length_nil]; omega))) ?_
  rintro e w31 ⟨rfl, hb31, hB31⟩
  have hC31 := hC30.trans hB31
  clear hb30 hC30 hB31
  go_wp2
  go_ret
  refine ⟨rfl, ?_, hC31⟩
  simpa only [allocL, List.append_assoc, List.cons_append, List.nil_append] using hb31
end Go.Proofs

/- patina/rt: Text, Data. -/
namespace Go.Proofs
open Go Go.RowKit Go.Pat
def TextTo (L : List It) (w : World) (e : Ending) (w' : World) : Prop := ∃ A c, e = .returned (.slice A L.length c) ∧ OwnT w' w.heap.size (.slice A L.length c) L ∧ Below w.heap.size w w'
theorem bld_new (w : World) (n : Nat) (h : n = w.heap.size) : Bld (n + 1) (w.alloc (.cells #[.slice none 0 0] 93)) n [] := by
  subst h
  exact ⟨by rw [World.size_alloc]; omega, .slice none 0 0, heap_alloc_new w _, .nil _ _⟩
theorem kept_new {w w' : World} {o : Obj} {B b : Nat} (hB : w.heap.size ≤ B) (hb : w.heap.size ≤ b) (h : KeptBut (Wr B b) (w.alloc o) w') : Below w.heap.size w w' :=
  ((KeptBut.of_below ((Below.refl _ _).alloc (Nat.le_refl _) o)).trans h).below (Nat.le_refl _) (fun k hk => by rcases hk with rfl | hk <;> omega)
set_option maxRecDepth 20000 in
set_option maxHeartbeats 32000000 in
theorem rtText_any (w : World) : Calls Tryz.prog 17 #[] w (TextTo rtText w) := by
  have hlp : printL.length < 100 := by decide
  have hla : allocL.length < 100 := by decide
  have hb := bld_new w _ rfl
  have hbl : w.heap.size < (w.alloc (.cells #[.slice none 0 0] 93)).heap.size := hb.lt
  go_enter Tryz.func17, Tryz.ntmps17
  go_wp2_with fail
  refine Calls.mono (rtlabel_any (w.heap.size + 1) w.heap.size _ ⟨#[114, 116, 46, 115, 116, 97, 114, 116]⟩ _ hb (by first | omega | (simp only [List.length_nil]; omega))) ?_
  rintro e w0 ⟨rfl, hb0, hB0⟩
  have hC0 := hB0
  clear hB0
  go_wp2_with fail
  refine Calls.mono (rtli_any (w.heap.size + 1) w.heap.size _ 2 33816576 _ hb0 (by first | omega | (simp only [List.length_append, List.length_cons, List.length_nil]; omega))) ?_
  rintro e w1 ⟨rfl, hb1, hB1⟩
  have hC1 := hC0.trans hB1
  clear hb0 hC0 hB1
  go_wp2_with fail
  refine Calls.mono (rtli_any (w.heap.size + 1) w.heap.size _ 3 33554944 _ hb1 (by first | omega | (simp only [List.length_append, List.length_cons, List.length_nil]; omega))) ?_
  rintro e w2 ⟨rfl, hb2, hB2⟩
  have hC2 := hC1.trans hB2
  clear hb1 hC1 hB2
  go_wp2_with fail
  refine Calls.mono (rtcall_any (w.heap.size + 1) w.heap.size _ ⟨#[102, 46, 109, 97, 105, 110]⟩ _ hb2 (by first | omega | (simp only [List.length_append, List.length_cons, List.length_nil]; omega))) ?_
  rintro e w3 ⟨rfl, hb3, hB3⟩
  have hC3 := hC2.trans hB3
  clear hb2 hC2 hB3
  go_wp2_with fail
  refine Calls.mono (rtexit_any (w.heap.size + 1) w.heap.size _ 0 _ hb3 (by first | omega | (simp only [List.length_append, List.length_cons, List.length_nil]; omega))) ?_
  rintro e w4 ⟨rfl, hb4, hB4⟩
  have hC4 := hC3.trans hB4
  clear hb3 hC3 hB4
  go_wp2_with fail
  refine Calls.mono (rtprint_any (w.heap.size + 1) w.heap.size _  _ hb4 (by first | omega | (simp only [List.length_append, List.length_cons, List.length_nil]; omega))) ?_
  rintro e w5 ⟨rfl, hb5, hB5⟩
  have hC5 := hC4.trans hB5
  clear hb4 hC4 hB5
  go_wp2_with fail
  refine Calls.mono (rtalloc_any (w.heap.size + 1) w.heap.size _  _ hb5 (by first | omega | (simp only [List.length_append, List.length_cons, List.length_nil]; omega))) ?_
  rintro e w6 ⟨rfl, hb6, hB6⟩
  have hC6 := hC5.trans hB6
  clear hb5 hC5 hB6
  go_wp2_with fail
  refine Calls.mono (rtlabel_any (w.heap.size + 1) w.heap.size _ ⟨#[114, 116, 46, 102, 114, 101, 101]⟩ _ hb6 (by first | omega | (simp only [List.length_append, List.length_cons, List.length_nil]; omega))) ?_
  rintro e w7 ⟨rfl, hb7, hB7⟩
  have hC7 := hC6.trans hB7
  clear hb6 hC6 hB7
  go_wp2_with fail
  refine Calls.mono (rtla_any (w.heap.size + 1) w.heap.size _ 5 ⟨#[114, 116, 46, 108, 105, 115, 116]⟩ _ hb7 (by first | omega | (simp only [List.length_append, List.length_cons, List.length_nil]; omega))) ?_
  rintro e w8 ⟨rfl, hb8, hB8⟩
  have hC8 := hC7.trans hB8
  clear hb7 hC7 hB8
  go_wp2_with fail
  refine Calls.mono (rtload_any (w.heap.size + 1) w.heap.size _ 6 5 _ hb8 (by first | omega | (simp only [List.length_append, List.length_cons, List.length_nil]; omega))) ?_
  rintro e w9 ⟨rfl, hb9, hB9⟩
  have hC9 := hC8.trans hB9
  clear hb8 hC8 hB9
  go_wp2_with fail
  refine Calls.mono (rtstore_any (w.heap.size + 1) w.heap.size _ 6 10 _ hb9 (by first | omega | (simp only [List.length_append, List.length_cons, List.length_nil]; omega))) ?_
  rintro e w10 ⟨rfl, hb10, hB10⟩
  have hC10 := hC9.trans hB10
  clear hb9 hC9 hB10
  go_wp2_with fail
  refine Calls.mono (rtstore_any (w.heap.size + 1) w.heap.size _ 10 5 _ hb10 (by first | omega | (simp only [List.length_append, List.length_cons, List.length_nil]; omega))) ?_
  rintro e w11 ⟨rfl, hb11, hB11⟩
  have hC11 := hC10.trans hB11
  clear hb10 hC10 hB11
  go_wp2_with fail
  refine Calls.mono (rtli_any (w.heap.size + 1) w.heap.size _ 10 0 _ hb11 (by first | omega | (simp only [List.length_append, List.length_cons, List.length_nil]; omega))) ?_
  rintro e w12 ⟨rfl, hb12, hB12⟩
  have hC12 := hC11.trans hB12
  clear hb11 hC11 hB12
  go_wp2_with fail
  refine Calls.mono (rtback_any (w.heap.size + 1) w.heap.size _  _ hb12 (by first | omega | (simp only [List.length_append, List.length_cons, List.length_nil]; omega))) ?_
  rintro e w13 ⟨rfl, hb13, hB13⟩
  have hC13 := hC12.trans hB13
  clear hb12 hC12 hB13
  go_wp2_with fail
  refine Calls.mono (rtlabel_any (w.heap.size + 1) w.heap.size _ ⟨#[114, 116, 46, 114, 101, 97, 100]⟩ _ hb13 (by first | omega | (simp only [List.length_append, List.length_cons, List.length_nil]; omega))) ?_
  rintro e w14 ⟨rfl, hb14, hB14⟩
  have hC14 := hC13.trans hB14
  clear hb13 hC13 hB14
  go_wp2_with fail
  refine Calls.mono (rtli_any (w.heap.size + 1) w.heap.size _ 17 63 _ hb14 (by first | omega | (simp only [List.length_append, List.length_cons, List.length_nil]; omega))) ?_
  rintro e w15 ⟨rfl, hb15, hB15⟩
  have hC15 := hC14.trans hB15
  clear hb14 hC14 hB15
  go_wp2_with fail
  refine Calls.mono (rtdo_any (w.heap.size + 1) w.heap.size _ 64 0 0 0 0 _ hb15 (by first | omega | (simp only [List.length_append, List.length_cons, List.length_nil]; omega))) ?_
  rintro e w16 ⟨rfl, hb16, hB16⟩
  have hC16 := hC15.trans hB16
  clear hb15 hC15 hB16
  go_wp2_with fail
  refine Calls.mono (rtback_any (w.heap.size + 1) w.heap.size _  _ hb16 (by first | omega | (simp only [List.length_append, List.length_cons, List.length_nil]; omega))) ?_
  rintro e w17 ⟨rfl, hb17, hB17⟩
  have hC17 := hC16.trans hB17
  clear hb16 hC16 hB17
  go_wp2_with fail
  refine Calls.mono (rtlabel_any (w.heap.size + 1) w.heap.size _ ⟨#[114, 116, 46, 115, 116, 97, 99, 107]⟩ _ hb17 (by first | omega | (simp only [List.length_append, List.length_cons, List.length_nil]; omega))) ?_
  rintro e w18 ⟨rfl, hb18, hB18⟩
  have hC18 := hC17.trans hB18
  clear hb17 hC17 hB18
  go_wp2_with fail
  refine Calls.mono (rtexit_any (w.heap.size + 1) w.heap.size _ 111 _ hb18 (by first | omega | (simp only [List.length_append, List.length_cons, List.length_nil]; omega))) ?_
  rintro e w19 ⟨rfl, hb19, hB19⟩
  have hC19 := hC18.trans hB19
  clear hb18 hC18 hB19
  have hBw := kept_new (Nat.le_succ _) (Nat.le_refl _) hC19
  obtain ⟨-, v, hbx, hown⟩ := hb19
  obtain ⟨A, c, rfl, -⟩ := hown.form
  have k0 := obj_cell hbx 0
  have HE := Lib.hid (show ∀ (L : List It) (W : World), L = rtText → OwnT W (w.heap.size + 1) (.slice A L.length c) L → Below w.heap.size w W → TextTo rtText w (.returned (.slice A L.length c)) W from fun L W h ho hb => by
    subst h
    exact ⟨A, c, rfl, ho.base (Nat.le_succ _), hb⟩)
  have HO := Lib.hid (And.intro hown hBw)
  clear hown hBw hC19
  go_wp2
  go_ret
  exact HE.out _ _ (by simp only [rtText, startL, restL, List.append_assoc, List.cons_append, List.nil_append]) HO.out.1 HO.out.2
end Go.Proofs

/- patina/rt: Data. -/
namespace Go.Proofs
open Go Go.RowKit Go.Pat
set_option maxRecDepth 20000 in
set_option maxHeartbeats 4000000 in
theorem rtspace_any (B bk c : Nat) (l : List It) (n : Int) (w : World) (hb : Bld B w bk l) (hl : l.length < 90000) (hc : w.cell? ⟨c, 0, none⟩ = some (.pointer (some ⟨bk, 0, none⟩))) :
    Calls Tryz.prog 44 #[.int .i64 n, .pointer (some ⟨c, 0, none⟩)] w (PutTo B bk (l ++ [⟨9, no, 0, 0, 0, 0, n⟩]) w) := by
  have hbl := hb.lt
  have HP := Lib.hid (rtput_any B bk l ⟨9, no, 0, 0, 0, 0, n⟩ w hb (by omega))
  go_enter Tryz.func44, Tryz.ntmps44
  go_wp2_with fail
  refine Calls.mono HP.out ?_
  rintro e w1 ⟨rfl, hb1, hB1⟩
  go_wp2
  go_end0
  exact ⟨rfl, hb1, hB1⟩
set_option maxRecDepth 20000 in
set_option maxHeartbeats 32000000 in
theorem rtData_any (w : World) : Calls Tryz.prog 19 #[] w (TextTo rtData w) := by
  obtain ⟨W, hW⟩ : ∃ W : World, W = ((w.alloc (.cells #[.slice none 0 0] 93)).alloc (.cells #[.pointer (some ⟨w.heap.size, 0, none⟩)] 89)).alloc (.cells #[.int .i64 8, .string ⟨#[]⟩, .int .i64 0, .int .i64 0, .int .i64 0, .int .i64 0, .int .i64 0] 28) := ⟨_, rfl⟩
  have hsz : W.heap.size = w.heap.size + 3 := by rw [hW]; simp
  have hp0 : W.heap[w.heap.size]? = some (.cells #[.slice none 0 0] 93 (0, 0)) := by
    rw [hW, heap_alloc_old _ _ (by simp; omega), heap_alloc_old _ _ (by simp), heap_alloc_new]
  have hp1 : W.heap[w.heap.size + 1]? = some (.cells #[.pointer (some ⟨w.heap.size, 0, none⟩)] 89 (0, 0)) := by
    have := heap_alloc_new (w.alloc (.cells #[.slice none 0 0] 93)) (.cells #[.pointer (some ⟨w.heap.size, 0, none⟩)] 89)
    rw [World.size_alloc] at this
    rw [hW, heap_alloc_old _ _ (by simp), this]
  have hp2 : W.heap[w.heap.size + 1 + 1]? = some (.cells #[.int .i64 8, .string ⟨#[]⟩, .int .i64 0, .int .i64 0, .int .i64 0, .int .i64 0, .int .i64 0] 28 (0, 0)) := by
    have := heap_alloc_new ((w.alloc (.cells #[.slice none 0 0] 93)).alloc (.cells #[.pointer (some ⟨w.heap.size, 0, none⟩)] 89)) (.cells #[.int .i64 8, .string ⟨#[]⟩, .int .i64 0, .int .i64 0, .int .i64 0, .int .i64 0, .int .i64 0] 28)
    rw [World.size_alloc, World.size_alloc] at this
    rw [hW, this]
  have hBW : Below w.heap.size w W := by rw [hW]; exact (((Below.refl _ _).alloc (Nat.le_refl _) _).alloc (by simp) _).alloc (by simp; omega) _
  have hb0 : Bld (w.heap.size + 3) W w.heap.size [] := ⟨by omega, .slice none 0 0, hp0, .nil _ _⟩
  have hK0 : KeptBut (Wr (w.heap.size + 3) w.heap.size) W W := .refl _ _
  have HS := Lib.hid (show ∀ w', KeptBut (Wr (w.heap.size + 3) w.heap.size) W w' → w'.cell? ⟨w.heap.size + 1, 0, none⟩ = some (.pointer (some ⟨w.heap.size, 0, none⟩)) ∧ w'.cell? ⟨w.heap.size + 1 + 1, 0, none⟩ = some (.int .i64 8) ∧ w'.cell? ⟨w.heap.size + 1 + 1, 1, none⟩ = some (.string no) ∧ w'.cell? ⟨w.heap.size + 1 + 1, 2, none⟩ = some (.int .i64 0) ∧ w'.cell? ⟨w.heap.size + 1 + 1, 3, none⟩ = some (.int .i64 0) ∧ w'.cell? ⟨w.heap.size + 1 + 1, 4, none⟩ = some (.int .i64 0) ∧ w'.cell? ⟨w.heap.size + 1 + 1, 5, none⟩ = some (.int .i64 0) ∧ w'.cell? ⟨w.heap.size + 1 + 1, 6, none⟩ = some (.int .i64 0) from fun w' h => by
    have h1 := (h.block (w.heap.size + 1) (by omega) (by unfold Wr; omega)).trans hp1
    have h2 := (h.block (w.heap.size + 1 + 1) (by omega) (by unfold Wr; omega)).trans hp2
    exact ⟨obj_cell h1 0, obj_cell h2 0, obj_cell h2 1, obj_cell h2 2, obj_cell h2 3, obj_cell h2 4, obj_cell h2 5, obj_cell h2 6⟩)
  have HW := Lib.hid hW
  have HBW := Lib.hid hBW
  clear hW hp0 hp1 hp2 hBW
  go_enter Tryz.func19, Tryz.ntmps19
  go_upto_region 4 with fail
  rw [← HW.out]
  have S1 := HS.out _ hK0
  have hd1 := hb0.below (Below.refl _ _).drew
  go_region_held3 (fun w' => w'.cell? ⟨w.heap.size + 1, 0, none⟩ = some (.pointer (some ⟨w.heap.size, 0, none⟩)) ∧ w'.cell? ⟨w.heap.size + 1 + 1, 0, none⟩ = some (.int .i64 8) ∧ w'.cell? ⟨w.heap.size + 1 + 1, 1, none⟩ = some (.string no) ∧ w'.cell? ⟨w.heap.size + 1 + 1, 2, none⟩ = some (.int .i64 0) ∧ w'.cell? ⟨w.heap.size + 1 + 1, 3, none⟩ = some (.int .i64 0) ∧ w'.cell? ⟨w.heap.size + 1 + 1, 4, none⟩ = some (.int .i64 0) ∧ w'.cell? ⟨w.heap.size + 1 + 1, 5, none⟩ = some (.int .i64 0) ∧ w'.cell? ⟨w.heap.size + 1 + 1, 6, none⟩ = some (.int .i64 0))
    (first | exact S1 | exact S2 | exact S3)
    (first
      | (go_at_call 33
         refine Calls.mono (rtlabel_any (w.heap.size + 3) w.heap.size _ ⟨#[114, 116, 46, 108, 105, 115, 116]⟩ _ hd1 (by simp)) ?_
         rintro e w2 ⟨rfl, hb2, hK2⟩
         have S2 := HS.out _ ((hK0).drew.trans hK2))
      | (go_at_call 45
         refine Calls.mono (rtput_any (w.heap.size + 3) w.heap.size _ ⟨8, no, 0, 0, 0, 0, 0⟩ _ hb2 (by simp)) ?_
         rintro e w3 ⟨rfl, hb3, hK3⟩
         have hC3 := ((hK0).drew.trans hK2).trans hK3
         have S3 := HS.out _ hC3))
  go_wp2_with fail
  have S4 := HS.out _ hC3
  have hd4 := hb3.below (Below.refl _ _).drew
  go_region_held3 (fun w' => w'.cell? ⟨w.heap.size + 1, 0, none⟩ = some (.pointer (some ⟨w.heap.size, 0, none⟩)) ∧ w'.cell? ⟨w.heap.size + 1 + 1, 0, none⟩ = some (.int .i64 8) ∧ w'.cell? ⟨w.heap.size + 1 + 1, 1, none⟩ = some (.string no) ∧ w'.cell? ⟨w.heap.size + 1 + 1, 2, none⟩ = some (.int .i64 0) ∧ w'.cell? ⟨w.heap.size + 1 + 1, 3, none⟩ = some (.int .i64 0) ∧ w'.cell? ⟨w.heap.size + 1 + 1, 4, none⟩ = some (.int .i64 0) ∧ w'.cell? ⟨w.heap.size + 1 + 1, 5, none⟩ = some (.int .i64 0) ∧ w'.cell? ⟨w.heap.size + 1 + 1, 6, none⟩ = some (.int .i64 0))
    (first | exact S4 | exact S5 | exact S6)
    (first
      | (go_at_call 33
         refine Calls.mono (rtlabel_any (w.heap.size + 3) w.heap.size _ ⟨#[114, 116, 46, 117, 115, 101, 100]⟩ _ hd4 (by simp)) ?_
         rintro e w5 ⟨rfl, hb5, hK5⟩
         have S5 := HS.out _ ((hC3).drew.trans hK5))
      | (go_at_call 45
         refine Calls.mono (rtput_any (w.heap.size + 3) w.heap.size _ ⟨8, no, 0, 0, 0, 0, 0⟩ _ hb5 (by simp)) ?_
         rintro e w6 ⟨rfl, hb6, hK6⟩
         have hC6 := ((hC3).drew.trans hK5).trans hK6
         have S6 := HS.out _ hC6))
  obtain ⟨c7, -⟩ := HS.out _ hC6
  go_wp2_with fail
  refine Calls.mono (rtspace_any (w.heap.size + 3) w.heap.size (w.heap.size + 1) _ 24 _ hb6 (by simp only [List.length_append, List.length_cons, List.length_nil]; omega) c7) ?_
  rintro e w7 ⟨rfl, hb7, hK7⟩
  have hC7 := (hC6).trans hK7
  obtain ⟨c8, -⟩ := HS.out _ hC7
  go_wp2_with fail
  refine Calls.mono (rtlabel_any (w.heap.size + 3) w.heap.size _ ⟨#[114, 116, 46, 101, 110, 100]⟩ _ hb7 (by simp only [List.length_append, List.length_cons, List.length_nil]; omega)) ?_
  rintro e w8 ⟨rfl, hb8, hK8⟩
  have hC8 := (hC7).trans hK8
  obtain ⟨c9, -⟩ := HS.out _ hC8
  go_wp2_with fail
  refine Calls.mono (rtspace_any (w.heap.size + 3) w.heap.size (w.heap.size + 1) _ 8 _ hb8 (by simp only [List.length_append, List.length_cons, List.length_nil]; omega) c9) ?_
  rintro e w9 ⟨rfl, hb9, hK9⟩
  have hC9 := (hC8).trans hK9
  obtain ⟨c10, -⟩ := HS.out _ hC9
  go_wp2_with fail
  refine Calls.mono (rtlabel_any (w.heap.size + 3) w.heap.size _ ⟨#[114, 116, 46, 98, 108, 111, 99, 107, 115]⟩ _ hb9 (by simp only [List.length_append, List.length_cons, List.length_nil]; omega)) ?_
  rintro e w10 ⟨rfl, hb10, hK10⟩
  have hC10 := (hC9).trans hK10
  obtain ⟨c11, -⟩ := HS.out _ hC10
  go_wp2_with fail
  refine Calls.mono (rtspace_any (w.heap.size + 3) w.heap.size (w.heap.size + 1) _ 131072 _ hb10 (by simp only [List.length_append, List.length_cons, List.length_nil]; omega) c11) ?_
  rintro e w11 ⟨rfl, hb11, hK11⟩
  have hC11 := (hC10).trans hK11
  obtain ⟨c12, -⟩ := HS.out _ hC11
  have hBw : Below w.heap.size w w11 := HBW.out.trans (hC11.below (by omega) (fun k hk => by rcases hk with rfl | hk <;> omega))
  obtain ⟨-, v, hbx, hown⟩ := hb11
  obtain ⟨A, c, rfl, -⟩ := hown.form
  have k0 := obj_cell hbx 0
  have HE := Lib.hid (show ∀ (L : List It) (W : World), L = rtData → OwnT W (w.heap.size + 3) (.slice A L.length c) L → Below w.heap.size w W → TextTo rtData w (.returned (.slice A L.length c)) W from fun L W h ho hb => by
    subst h
    exact ⟨A, c, rfl, ho.base (by omega), hb⟩)
  have HO := Lib.hid (And.intro hown hBw)
  clear hown hBw
  go_wp2
  go_ret
  exact HE.out _ _ (by simp only [rtData, List.cons_append, List.nil_append]) HO.out.1 HO.out.2
end Go.Proofs
