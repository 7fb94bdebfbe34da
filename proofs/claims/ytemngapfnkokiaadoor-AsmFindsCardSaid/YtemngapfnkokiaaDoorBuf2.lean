/- Numbers as bytes: patinaref04.number, elf.get, patinaref04.read; append of bytes. -/
import Derived.Test.YtemngapfnkokiaaDoorBuf
namespace Go.Proofs
open Go Go.RowKit Go.Pat

theorem OwnB.form {w : World} {base : Nat} {v : Value} {l : List UInt8} (h : OwnB w base v l) : ∃ A c, v = .slice A l.length c ∧ Bs w.heap.size w A l := by
  rcases h.2 with ⟨rfl, h0⟩ | ⟨g, cap, cur, rfl, _, hh, hn, hm, hc, ht⟩
  · exact ⟨none, 0, by rw [h0], fun i hi => by rw [bcells_length] at hi; omega⟩
  · exact ⟨_, cap, rfl, Cs.of_own (c := cap) h⟩
theorem OwnB.below {w w' : World} {base : Nat} {v : Value} {l : List UInt8} (h : OwnB w base v l) (hb : Below w.heap.size w w') : OwnB w' base v l := by
  refine ⟨h.1, ?_⟩
  rcases h.2 with h0 | ⟨g, cap, cur, hv, hg, hh, r⟩
  · exact .inl h0
  · exact .inr ⟨g, cap, cur, hv, hg, (hb.block g (lt_of_block hh)).trans hh, r⟩
theorem OwnB.nil (w : World) (base : Nat) : OwnB w base (.slice none 0 0) [] := ⟨rfl, .inl ⟨rfl, rfl⟩⟩
theorem OwnB.alloc {w : World} {base : Nat} {v : Value} {l : List UInt8} (h : OwnB w base v l) (o : Obj) : OwnB (w.alloc o) base v l := h.below ((Below.refl _ _).alloc (Nat.le_refl _) _)
theorem OwnB.keep {w w' : World} {base : Nat} {v : Value} {l : List UInt8} (h : OwnB w base v l) (hb : ∀ g, v.ownBlock = some g → w'.heap[g]? = w.heap[g]?) : OwnB w' base v l := by
  refine ⟨h.1, ?_⟩
  rcases h.2 with h0 | ⟨g, cap, cur, rfl, hg, hh, r⟩
  · exact .inl h0
  · exact .inr ⟨g, cap, cur, rfl, hg, (hb g rfl).trans hh, r⟩
theorem OwnB.block {w : World} {base : Nat} {v : Value} {l : List UInt8} (h : OwnB w base v l) {g : Nat} (hg : v.ownBlock = some g) : base ≤ g ∧ ∃ cur, w.heap[g]? = some (.cells cur 5 (0, 0)) := by
  rcases h.2 with ⟨rfl, _⟩ | ⟨g2, cap, cur, rfl, h1, hh, _⟩
  · cases hg
  · obtain rfl : g2 = g := by simpa [Value.ownBlock] using hg
    exact ⟨h1, cur, hh⟩
theorem OwnB.base {w : World} {base b2 : Nat} {v : Value} {l : List UInt8} (h : OwnB w base v l) (hb : b2 ≤ base) : OwnB w b2 v l := by
  refine ⟨h.1, ?_⟩
  rcases h.2 with h0 | ⟨g, cap, cur, hv, hg, r⟩
  · exact .inl h0
  · exact .inr ⟨g, cap, cur, hv, by omega, r⟩

theorem wpList_appB {ops : Array Oper} {rest : List Oper} {o : Oper} {a : Act} {Q : Exit → Act → World → Prop} (w : World) (hgd : o.guard = none) (s x : Operand)
    (ho : o.op = .call { callee := .builtin .append, args := #[s, x], argTypes := #[42, 42] }) (base : Nat) (v : Value) (l : List UInt8) (hs : a.eval s = v) (hown : OwnB w base v l)
    (B : Nat) (A : Option Addr) (n c : Nat) (m : List UInt8) (hx : a.eval x = .slice A n c) (hn : m.length = n) (hr : Bs B w A m) (hlen : l.length + n ≤ 140737488355328) (hbase : base ≤ w.heap.size)
    (h : ∀ v' w', OwnB w' base v' (l ++ m) → (∀ W, Below base W w → Below base W w') → (v' = .slice none 0 0 ↔ v = .slice none 0 0 ∧ n = 0) → wpList Tryd.prog ops Q rest (a.put o.dst v') w') :
    wpList Tryd.prog ops Q (o :: rest) a w := by
  refine wpList_app w hgd s x 42 ho Tryd_elU8 base v l.length (bcells l) hs hown B A n c (bcells m) hx (by rw [bcells_length, hn, Nat.mul_one]) hr (bcells_one m) (by simp only [maxLen]; omega) (by rw [Nat.mul_one]; exact hlen) hbase ?_
  intro v' w' h1 hg hnil hat
  refine h v' w' ?_ (fun W hW => own_below hown hW hg hbase) hnil
  unfold OwnB
  rw [List.length_append, hn, bcells_append]
  exact h1

theorem lit_bs (w : World) (x : Int) (c : UInt8) (t : TypeId) (hx : x = (c.toNat : Int)) : Bs (w.alloc (.cells #[.int .u8 x] t)).heap.size (w.alloc (.cells #[.int .u8 x] t)) (some ⟨w.heap.size, 0, none⟩) [c] := by
  subst hx
  intro i hi
  obtain rfl : i = 0 := by simp [bcells] at hi; omega
  refine ⟨w.heap.size, 0, rfl, by simp, ?_⟩
  unfold World.cell?
  rw [show (w.alloc (.cells #[.int .u8 (c.toNat : Int)] t)).heap[w.heap.size]? = some (.cells #[.int .u8 (c.toNat : Int)] t) from Array.getElem?_push_size]
  rfl

theorem num_front (l : List UInt8) (a k : Nat) : num l a (k + 1) = num l (a + 1) k * 256 + (l.getD a 0).toNat := by
  induction k with
  | zero => simp [num]
  | succ k ih =>
    rw [num, ih, num, Nat.pow_succ, show a + 1 + k = a + (k + 1) by omega, Nat.add_mul]
    rw [← Nat.mul_assoc]
    omega

end Go.Proofs
