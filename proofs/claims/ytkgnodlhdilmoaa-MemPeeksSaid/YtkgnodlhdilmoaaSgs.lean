/- A slice of segments of the call's own. -/
import Derived.Test.YtkgnodlhdilmoaaWr2
import Derived.Test.YtkgnodlhdilmoaaPb
namespace Go.Pat
open Go Go.RowKit

def Sg.cells (s : Sg) : List Value := [.int .u64 (s.addr : Int), .int .i64 s.perm, .slice s.A s.data.length s.cap, .int .u64 (s.size : Int)]
def scells : List Sg → List Value
  | [] => []
  | s :: r => s.cells ++ scells r
theorem scells_length (ss : List Sg) : (scells ss).length = ss.length * 4 := by
  induction ss with
  | nil => rfl
  | cons s r ih => simp [scells, Sg.cells, ih]; omega
theorem scells_append (a b : List Sg) : scells (a ++ b) = scells a ++ scells b := by
  induction a with
  | nil => rfl
  | cons s r ih => simp [scells, ih]
theorem scells_one (ss : List Sg) : ∀ u ∈ scells ss, u.oneCell' = true := by
  induction ss with
  | nil => intro u hu; cases hu
  | cons s r ih =>
    intro u hu
    simp only [scells, Sg.cells, List.cons_append, List.nil_append, List.mem_cons] at hu
    rcases hu with rfl | rfl | rfl | rfl | h
    · rfl
    · rfl
    · rfl
    · rfl
    · exact ih u h
theorem scells_get (ss : List Sg) (i : Nat) (hi : i < ss.length) (j : Nat) (hj : j < 4) : (scells ss)[i * 4 + j]? = (ss[i].cells)[j]? := by
  induction ss generalizing i with
  | nil => simp at hi
  | cons s r ih =>
    cases i with
    | zero => simp only [scells, Nat.zero_mul, Nat.zero_add, List.getElem_cons_zero]; rw [List.getElem?_append_left (by simp [Sg.cells]; omega)]
    | succ i =>
      rw [show (i + 1) * 4 + j = 4 + (i * 4 + j) by omega]
      simp only [scells, List.getElem_cons_succ]
      rw [List.getElem?_append_right (by simp [Sg.cells])]
      simp only [Sg.cells, List.length_cons, List.length_nil]
      rw [show 4 + (i * 4 + j) - (0 + 1 + 1 + 1 + 1) = i * 4 + j by omega]
      exact ih i (by simpa using hi)
end Go.Pat
namespace Go.Proofs
open Go Go.RowKit Go.Pat

theorem Try_elSeg : ElT Try.prog 36 73 (.agg #[.int .u64 0, .int .i64 0, .slice none 0 0, .int .u64 0]) 4 48 := ⟨Try.underlying36, by kernel_rfl, rfl, by decide⟩
def OwnS (w : World) (base : Nat) (v : Value) (ss : List Sg) : Prop := w.ownsRow base 73 4 v ss.length (scells ss)
theorem OwnS.form {w : World} {base : Nat} {v : Value} {ss : List Sg} (h : OwnS w base v ss) : ∃ A c, v = .slice A ss.length c ∧ Cs w.heap.size w A (scells ss) := by
  rcases h.2 with ⟨rfl, h0⟩ | ⟨g, cap, cur, rfl, _, hh, hn, hm, hc, ht⟩
  · exact ⟨none, 0, by rw [h0], fun i hi => by rw [scells_length] at hi; omega⟩
  · exact ⟨_, cap, rfl, Cs.of_own (c := cap) h⟩
theorem OwnS.keep {w w' : World} {base : Nat} {v : Value} {ss : List Sg} (h : OwnS w base v ss) (hb : ∀ g, v.ownBlock = some g → w'.heap[g]? = w.heap[g]?) : OwnS w' base v ss := by
  refine ⟨h.1, ?_⟩
  rcases h.2 with h0 | ⟨g, cap, cur, rfl, hg, hh, r⟩
  · exact .inl h0
  · exact .inr ⟨g, cap, cur, rfl, hg, (hb g rfl).trans hh, r⟩
theorem OwnS.below {w w' : World} {base : Nat} {v : Value} {ss : List Sg} (h : OwnS w base v ss) (hb : Below w.heap.size w w') : OwnS w' base v ss := h.keep fun g hg => hb.block g (h.lt g hg).2
theorem OwnS.nil (w : World) (base : Nat) : OwnS w base (.slice none 0 0) [] := ⟨rfl, .inl ⟨rfl, rfl⟩⟩
theorem OwnS.block {w : World} {base : Nat} {v : Value} {ss : List Sg} (h : OwnS w base v ss) {g : Nat} (hg : v.ownBlock = some g) : base ≤ g ∧ ∃ cur, w.heap[g]? = some (.cells cur 73 (0, 0)) := by
  rcases h.2 with ⟨rfl, _⟩ | ⟨g2, cap, cur, rfl, h1, hh, _⟩
  · cases hg
  · obtain rfl : g2 = g := by simpa [Value.ownBlock] using hg
    exact ⟨h1, cur, hh⟩
theorem OwnB.keep {w w' : World} {base : Nat} {v : Value} {l : List UInt8} (h : OwnB w base v l) (hb : ∀ g, v.ownBlock = some g → w'.heap[g]? = w.heap[g]?) : OwnB w' base v l := by
  refine ⟨h.1, ?_⟩
  rcases h.2 with h0 | ⟨g, cap, cur, rfl, hg, hh, r⟩
  · exact .inl h0
  · exact .inr ⟨g, cap, cur, rfl, hg, (hb g rfl).trans hh, r⟩
theorem OwnB.block {w : World} {base : Nat} {v : Value} {l : List UInt8} (h : OwnB w base v l) {g : Nat} (hg : v.ownBlock = some g) : base ≤ g ∧ ∃ cur, w.heap[g]? = some (.cells cur 5 (0, 0)) := by
  rcases h.2 with ⟨rfl, _⟩ | ⟨g2, cap, cur, rfl, h1, hh, _⟩
  · cases hg
  · obtain rfl : g2 = g := by simpa [Value.ownBlock] using hg
    exact ⟨h1, cur, hh⟩

/-- segments of the call's own, their bytes too. -/
structure OwnSs (w : World) (base : Nat) (v : Value) (ss : List Sg) : Prop where
  row : OwnS w base v ss
  bytes : ∀ s ∈ ss, OwnB w base (.slice s.A s.data.length s.cap) s.data
  small : ∀ s ∈ ss, s.addr < 18446744073709551616 ∧ s.size < 18446744073709551616 ∧ s.data.length ≤ 140737488351232
theorem OwnSs.below {w w' : World} {base : Nat} {v : Value} {ss : List Sg} (h : OwnSs w base v ss) (hb : Below w.heap.size w w') : OwnSs w' base v ss :=
  ⟨h.row.below hb, fun s hs => (h.bytes s hs).below hb, h.small⟩
theorem OwnSs.nil (w : World) (base : Nat) : OwnSs w base (.slice none 0 0) [] := ⟨.nil w base, by simp, by simp⟩
/-- a store outside of them. -/
theorem OwnSs.put {w w' : World} {base : Nat} {v : Value} {ss : List Sg} (h : OwnSs w base v ss) {r : Nat} {cs : Array Value} {t : TypeId} {fr : Nat × Nat} (hr : w.heap[r]? = some (.cells cs t fr)) (h1 : t ≠ 73) (h2 : t ≠ 5)
    (hb : KeptBut (fun b => b = r) w w') : OwnSs w' base v ss := by
  refine ⟨h.row.keep fun g hg => ?_, fun s hs => (h.bytes s hs).keep fun g hg => ?_, h.small⟩
  · obtain ⟨_, cur, hc⟩ := h.row.block hg
    refine hb.block g (lt_of_block hc) ?_
    rintro rfl
    rw [hr] at hc
    cases hc
    exact h1 rfl
  · obtain ⟨_, cur, hc⟩ := (h.bytes s hs).block hg
    refine hb.block g (lt_of_block hc) ?_
    rintro rfl
    rw [hr] at hc
    cases hc
    exact h2 rfl
theorem OwnSs.sgs {w : World} {base : Nat} {v : Value} {ss : List Sg} (h : OwnSs w base v ss) (hf : ss.length ≤ 140737488351232) : ∃ A c, v = .slice A ss.length c ∧ SgsAt w.heap.size w A ss := by
  obtain ⟨A, c, rfl, hc⟩ := h.row.form
  refine ⟨A, c, rfl, fun i hi => ?_, fun s hs => ?_, h.small, hf, fun s hs => ?_⟩
  · have hlen := scells_length ss
    have gt : ∀ j, j < 4 → ∃ b o, A = some ⟨b, o, none⟩ ∧ b < w.heap.size ∧ w.cell? ⟨b, o + (i * 4 + j), none⟩ = (ss[i].cells)[j]? := fun j hj => by
      obtain ⟨b, o, e, hb, hx⟩ := hc (i * 4 + j) (by omega)
      refine ⟨b, o, e, hb, ?_⟩
      rw [hx, ← scells_get ss i hi j hj, List.getElem?_eq_getElem (by omega)]
    obtain ⟨b, o, rfl, hb, g0⟩ := gt 0 (by omega)
    obtain ⟨b1, o1, e1, _, g1⟩ := gt 1 (by omega)
    obtain ⟨b2, o2, e2, _, g2⟩ := gt 2 (by omega)
    obtain ⟨b3, o3, e3, _, g3⟩ := gt 3 (by omega)
    cases e1
    cases e2
    cases e3
    exact ⟨b, o, rfl, hb, g0, g1, g2, g3⟩
  · obtain ⟨A2, c2, e, hb⟩ := (h.bytes s hs).form
    cases e
    exact hb
  · rcases (h.bytes s hs).2 with ⟨e, h0⟩ | ⟨g, cap, cur, e, _, hh, hn, _⟩
    · omega
    · simp only [Value.slice.injEq] at e
      omega

theorem wpList_appS {ops : Array Oper} {rest : List Oper} {o : Oper} {a : Act} {Q : Exit → Act → World → Prop} (w : World) (hgd : o.guard = none) (x y : Operand)
    (ho : o.op = .call { callee := .builtin .append, args := #[x, y], argTypes := #[36, 36] }) (base : Nat) (v : Value) (ss : List Sg) (hx : a.eval x = v) (hown : OwnSs w base v ss)
    (b c : Nat) (s : Sg) (hy : a.eval y = .slice (some ⟨b, 0, none⟩) 1 c) (hb : w.heap[b]? = some (.cells s.cells.toArray 73 (0, 0))) (hnb : v.ownBlock ≠ some b) (hsb : OwnB w base (.slice s.A s.data.length s.cap) s.data)
    (hss : s.addr < 18446744073709551616 ∧ s.size < 18446744073709551616 ∧ s.data.length ≤ 140737488351232) (hlen : ss.length + 1 ≤ 1000) (hbase : base ≤ w.heap.size)
    (h : ∀ v' w', OwnSs w' base v' (ss ++ [s]) → (∀ W, Below base W w → Below base W w') → (∀ g, g < w.heap.size → v.ownBlock ≠ some g → w'.heap[g]? = w.heap[g]?) → wpList Try.prog ops Q rest (a.put o.dst v') w') :
    wpList Try.prog ops Q (o :: rest) a w := by
  have hcs : Cs w.heap.size w (some ⟨b, 0, none⟩) (scells [s]) := fun i hi => by
    have hi4 : i < 4 := by simpa [scells, Sg.cells] using hi
    refine ⟨b, 0, rfl, lt_of_block hb, ?_⟩
    simp only [World.cell?, hb, Nat.zero_add]
    simp [scells]
  refine wpList_app w hgd x y 36 ho Try_elSeg base v ss.length (scells ss) hx hown.row _ (some ⟨b, 0, none⟩) 1 c (scells [s]) hy (by simp [scells, Sg.cells]) hcs (scells_one [s]) (by simp only [maxLen]; omega) (by omega) hbase ?_
  intro v' w' h1 hg hnil hat
  have hk : ∀ g, g < w.heap.size → v.ownBlock ≠ some g → w'.heap[g]? = w.heap[g]? := fun g hg1 hg2 => hg.block g hg1 (fun e => hg2 e.symm)
  refine h v' w' ⟨?_, ?_, ?_⟩ (fun W hW => own_below hown.row hW hg hbase) hk
  · unfold OwnS
    rw [List.length_append, scells_append]
    exact h1
  · have keepB : ∀ t : Sg, OwnB w base (.slice t.A t.data.length t.cap) t.data → OwnB w' base (.slice t.A t.data.length t.cap) t.data := fun t ht => ht.keep fun g hgb => by
      obtain ⟨_, cur, hc⟩ := ht.block hgb
      refine hk g (lt_of_block hc) (fun e => ?_)
      obtain ⟨_, cur2, hc2⟩ := hown.row.block e
      rw [hc] at hc2
      cases hc2
    intro t ht
    rcases List.mem_append.1 ht with ht | ht
    · exact keepB t (hown.bytes t ht)
    · obtain rfl := List.mem_singleton.1 ht
      exact keepB t hsb
  · intro t ht
    rcases List.mem_append.1 ht with ht | ht
    · exact hown.small t ht
    · obtain rfl := List.mem_singleton.1 ht
      exact hss
end Go.Proofs
