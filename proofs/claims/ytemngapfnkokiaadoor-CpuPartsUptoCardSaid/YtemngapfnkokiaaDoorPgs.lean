/- A slice of pages of the call's own. -/
import Derived.Test.YtemngapfnkokiaaDoorStepB
import Derived.Test.YtemngapfnkokiaaDoorMemTop
namespace Go.Pat
open Go Go.RowKit

def PgIn.cells (s : PgIn) : List Value := [.int .u64 (s.base : Int), .int .i64 s.perm, .slice s.A s.data.length s.cap]
def pcells : List PgIn → List Value
  | [] => []
  | s :: r => s.cells ++ pcells r
theorem pcells_length (ss : List PgIn) : (pcells ss).length = ss.length * 3 := by
  induction ss with
  | nil => rfl
  | cons s r ih => simp [pcells, PgIn.cells, ih]; omega
theorem pcells_append (a b : List PgIn) : pcells (a ++ b) = pcells a ++ pcells b := by
  induction a with
  | nil => rfl
  | cons s r ih => simp [pcells, ih]
theorem pcells_one (ss : List PgIn) : ∀ u ∈ pcells ss, u.oneCell' = true := by
  induction ss with
  | nil => intro u hu; cases hu
  | cons s r ih =>
    intro u hu
    simp only [pcells, PgIn.cells, List.cons_append, List.nil_append, List.mem_cons] at hu
    rcases hu with rfl | rfl | rfl | h
    · rfl
    · rfl
    · rfl
    · exact ih u h
theorem pcells_get (ss : List PgIn) (i : Nat) (hi : i < ss.length) (j : Nat) (hj : j < 3) : (pcells ss)[i * 3 + j]? = (ss[i].cells)[j]? := by
  induction ss generalizing i with
  | nil => simp at hi
  | cons s r ih =>
    cases i with
    | zero => simp only [pcells, Nat.zero_mul, Nat.zero_add, List.getElem_cons_zero]; rw [List.getElem?_append_left (by simp [PgIn.cells]; omega)]
    | succ i =>
      rw [show (i + 1) * 3 + j = 3 + (i * 3 + j) by omega]
      simp only [pcells, List.getElem_cons_succ]
      rw [List.getElem?_append_right (by simp [PgIn.cells])]
      simp only [PgIn.cells, List.length_cons, List.length_nil]
      rw [show 3 + (i * 3 + j) - (0 + 1 + 1 + 1) = i * 3 + j by omega]
      exact ih i (by simpa using hi)
end Go.Pat
namespace Go.Proofs
open Go Go.RowKit Go.Pat

theorem Tryd_elPg : ElT Tryd.prog 78 135 (.agg #[.int .u64 0, .int .i64 0, .slice none 0 0]) 3 40 := ⟨Tryd.underlying78, by kernel_rfl, rfl, by decide⟩
def OwnP (w : World) (base : Nat) (v : Value) (ss : List PgIn) : Prop := w.ownsRow base 135 3 v ss.length (pcells ss)
theorem OwnP.form {w : World} {base : Nat} {v : Value} {ss : List PgIn} (h : OwnP w base v ss) : ∃ A c, v = .slice A ss.length c ∧ Cs w.heap.size w A (pcells ss) := by
  rcases h.2 with ⟨rfl, h0⟩ | ⟨g, cap, cur, rfl, _, hh, hn, hm, hc, ht⟩
  · exact ⟨none, 0, by rw [h0], fun i hi => by rw [pcells_length] at hi; omega⟩
  · exact ⟨_, cap, rfl, Cs.of_own (c := cap) h⟩
theorem OwnP.keep {w w' : World} {base : Nat} {v : Value} {ss : List PgIn} (h : OwnP w base v ss) (hb : ∀ g, v.ownBlock = some g → w'.heap[g]? = w.heap[g]?) : OwnP w' base v ss := by
  refine ⟨h.1, ?_⟩
  rcases h.2 with h0 | ⟨g, cap, cur, rfl, hg, hh, r⟩
  · exact .inl h0
  · exact .inr ⟨g, cap, cur, rfl, hg, (hb g rfl).trans hh, r⟩
theorem OwnP.below {w w' : World} {base : Nat} {v : Value} {ss : List PgIn} (h : OwnP w base v ss) (hb : Below w.heap.size w w') : OwnP w' base v ss := h.keep fun g hg => hb.block g (h.lt g hg).2
theorem OwnP.nil (w : World) (base : Nat) : OwnP w base (.slice none 0 0) [] := ⟨rfl, .inl ⟨rfl, rfl⟩⟩
theorem OwnP.block {w : World} {base : Nat} {v : Value} {ss : List PgIn} (h : OwnP w base v ss) {g : Nat} (hg : v.ownBlock = some g) : base ≤ g ∧ ∃ cur, w.heap[g]? = some (.cells cur 135 (0, 0)) := by
  rcases h.2 with ⟨rfl, _⟩ | ⟨g2, cap, cur, rfl, h1, hh, _⟩
  · cases hg
  · obtain rfl : g2 = g := by simpa [Value.ownBlock] using hg
    exact ⟨h1, cur, hh⟩
/-- segments of the call's own, their bytes too. -/
structure OwnPs (w : World) (base : Nat) (v : Value) (ss : List PgIn) : Prop where
  row : OwnP w base v ss
  bytes : ∀ s ∈ ss, OwnB w base (.slice s.A s.data.length s.cap) s.data
  small : ∀ s ∈ ss, s.base < 18446744073709551616 ∧ s.data.length ≤ 140737488351232
theorem OwnPs.below {w w' : World} {base : Nat} {v : Value} {ss : List PgIn} (h : OwnPs w base v ss) (hb : Below w.heap.size w w') : OwnPs w' base v ss :=
  ⟨h.row.below hb, fun s hs => (h.bytes s hs).below hb, h.small⟩
theorem OwnPs.nil (w : World) (base : Nat) : OwnPs w base (.slice none 0 0) [] := ⟨.nil w base, by simp, by simp⟩
/-- a store outside of them. -/
theorem OwnPs.put {w w' : World} {base : Nat} {v : Value} {ss : List PgIn} (h : OwnPs w base v ss) {r : Nat} {cs : Array Value} {t : TypeId} {fr : Nat × Nat} (hr : w.heap[r]? = some (.cells cs t fr)) (h1 : t ≠ 135) (h2 : t ≠ 5)
    (hb : KeptBut (fun b => b = r) w w') : OwnPs w' base v ss := by
  refine ⟨h.row.keep fun g hg => ?_, fun s hs => (h.bytes s hs).keep fun g hg => ?_, h.small⟩
  · obtain ⟨_, cur, hc⟩ := h.row.block hg
    refine hb.block g (lt_of_block hc) ?_
    rintro rfl
    rw [hr] at hc
    cases hc
    exact h1 rfl
  · obtain ⟨_, cur, hc⟩ := (h.bytes s hs).block hg
    refine hb.block g (lt_of_block hc) ?_
    rintro rfl
    rw [hr] at hc
    cases hc
    exact h2 rfl
theorem OwnPs.pgs {w : World} {base : Nat} {v : Value} {ss : List PgIn} (h : OwnPs w base v ss) (hf : ss.length ≤ 140737488351232) : ∃ A c, v = .slice A ss.length c ∧ PgsAt w.heap.size w A ss := by
  obtain ⟨A, c, rfl, hc⟩ := h.row.form
  refine ⟨A, c, rfl, fun i hi => ?_, fun s hs => ?_, h.small, hf⟩
  · have hlen := pcells_length ss
    have gt : ∀ j, j < 3 → ∃ b o, A = some ⟨b, o, none⟩ ∧ b < w.heap.size ∧ w.cell? ⟨b, o + (i * 3 + j), none⟩ = (ss[i].cells)[j]? := fun j hj => by
      obtain ⟨b, o, e, hb, hx⟩ := hc (i * 3 + j) (by omega)
      refine ⟨b, o, e, hb, ?_⟩
      rw [hx, ← pcells_get ss i hi j hj, List.getElem?_eq_getElem (by omega)]
    obtain ⟨b, o, rfl, hb, g0⟩ := gt 0 (by omega)
    obtain ⟨b1, o1, e1, _, g1⟩ := gt 1 (by omega)
    obtain ⟨b2, o2, e2, _, g2⟩ := gt 2 (by omega)
    cases e1
    cases e2
    exact ⟨b, o, rfl, hb, g0, g1, g2⟩
  · obtain ⟨A2, c2, e, hb⟩ := (h.bytes s hs).form
    cases e
    exact hb

theorem wpList_appP {ops : Array Oper} {rest : List Oper} {o : Oper} {a : Act} {Q : Exit → Act → World → Prop} (w : World) (hgd : o.guard = none) (x y : Operand)
    (ho : o.op = .call { callee := .builtin .append, args := #[x, y], argTypes := #[78, 78] }) (base : Nat) (v : Value) (ss : List PgIn) (hx : a.eval x = v) (hown : OwnPs w base v ss)
    (b c : Nat) (s : PgIn) (hy : a.eval y = .slice (some ⟨b, 0, none⟩) 1 c) (hb : w.heap[b]? = some (.cells s.cells.toArray 135 (0, 0))) (hnb : v.ownBlock ≠ some b) (hsb : OwnB w base (.slice s.A s.data.length s.cap) s.data)
    (hss : s.base < 18446744073709551616 ∧ s.data.length ≤ 140737488351232) (hlen : ss.length + 1 ≤ 100000) (hbase : base ≤ w.heap.size)
    (h : ∀ v' w', OwnPs w' base v' (ss ++ [s]) → (∀ W, Below base W w → Below base W w') → (∀ g, g < w.heap.size → v.ownBlock ≠ some g → w'.heap[g]? = w.heap[g]?) → wpList Tryd.prog ops Q rest (a.put o.dst v') w') :
    wpList Tryd.prog ops Q (o :: rest) a w := by
  have hcs : Cs w.heap.size w (some ⟨b, 0, none⟩) (pcells [s]) := fun i hi => by
    have hi4 : i < 3 := by simpa [pcells, PgIn.cells] using hi
    refine ⟨b, 0, rfl, lt_of_block hb, ?_⟩
    simp only [World.cell?, hb, Nat.zero_add]
    simp [pcells]
  refine wpList_app w hgd x y 78 ho Tryd_elPg base v ss.length (pcells ss) hx hown.row _ (some ⟨b, 0, none⟩) 1 c (pcells [s]) hy (by simp [pcells, PgIn.cells]) hcs (pcells_one [s]) (by simp only [maxLen]; omega) (by omega) hbase ?_
  intro v' w' h1 hg hnil hat
  have hk : ∀ g, g < w.heap.size → v.ownBlock ≠ some g → w'.heap[g]? = w.heap[g]? := fun g hg1 hg2 => hg.block g hg1 (fun e => hg2 e.symm)
  refine h v' w' ⟨?_, ?_, ?_⟩ (fun W hW => own_below hown.row hW hg hbase) hk
  · unfold OwnP
    rw [List.length_append, pcells_append]
    exact h1
  · have keepB : ∀ t : PgIn, OwnB w base (.slice t.A t.data.length t.cap) t.data → OwnB w' base (.slice t.A t.data.length t.cap) t.data := fun t ht => ht.keep fun g hgb => by
      obtain ⟨_, cur, hc⟩ := ht.block hgb
      refine hk g (lt_of_block hc) (fun e => ?_)
      obtain ⟨_, cur2, hc2⟩ := hown.row.block e
      rw [hc] at hc2
      cases hc2
    intro t ht
    rcases List.mem_append.1 ht with ht | ht
    · exact keepB t (hown.bytes t ht)
    · obtain rfl := List.mem_singleton.1 ht
      exact keepB t hsb
  · intro t ht
    rcases List.mem_append.1 ht with ht | ht
    · exact hown.small t ht
    · obtain rfl := List.mem_singleton.1 ht
      exact hss
end Go.Proofs
