/- Numbers as bytes: elf.put, elf.get, patinaref04.number, patinaref04.read. -/
import Derived.Test.YtlhenglopnipaaaGreatDoorMemBase
import Derived.Test.YtlhenglopnipaaaGreatDoorMemTop
import Derived.Laws.CopyOwn
import Derived.Laws.IdiomStrings
import Derived.Lib.BufferRead
namespace Go.Pat
open Go Go.RowKit

/-- a number's n lowest bytes. -/
def le (n v : Nat) : List UInt8 := (List.range n).map fun i => UInt8.ofNat (v / 256 ^ i)
theorem le_length (n v : Nat) : (le n v).length = n := by simp [le]
theorem le_succ (n v : Nat) : le (n + 1) v = le n v ++ [UInt8.ofNat (v / 256 ^ n)] := by simp [le, List.range_succ]
/-- a number out of its bytes. -/
def num (l : List UInt8) (at_ : Nat) : Nat → Nat
  | 0 => 0
  | k + 1 => num l at_ k + (l.getD (at_ + k) 0).toNat * 256 ^ k
theorem num_lt (l : List UInt8) (at_ k : Nat) : num l at_ k < 256 ^ k := by
  induction k with
  | zero => simp [num]
  | succ k ih =>
    have := UInt8.toNat_lt (l.getD (at_ + k) 0)
    have h2 : (l.getD (at_ + k) 0).toNat * 256 ^ k ≤ 255 * 256 ^ k := Nat.mul_le_mul_right _ (by omega)
    simp only [num, Nat.pow_succ]
    omega

theorem splice_nil {α : Type} (l : List α) (a : Nat) : splice l a [] = l := by simp [splice]
theorem splice_get {α : Type} (l : List α) (a : Nat) (xs : List α) (h : a + xs.length ≤ l.length) (i : Nat) : (splice l a xs)[i]? = if a ≤ i ∧ i < a + xs.length then xs[i - a]? else l[i]? := by
  unfold splice
  by_cases h1 : i < a
  · rw [if_neg (by omega), List.getElem?_append_left (by simp; omega), List.getElem?_take, if_pos h1]
  · rw [List.getElem?_append_right (by simp; omega)]
    simp only [List.length_take, Nat.min_eq_left (show a ≤ l.length by omega)]
    by_cases h2 : i < a + xs.length
    · rw [if_pos (by omega), List.getElem?_append_left (by omega)]
    · rw [if_neg (by omega), List.getElem?_append_right (by omega), List.getElem?_drop]
      congr 1
      omega
theorem splice_splice {α : Type} (l : List α) (a : Nat) (xs ys : List α) (h : a + xs.length + ys.length ≤ l.length) : splice (splice l a xs) (a + xs.length) ys = splice l a (xs ++ ys) := by
  have h1 : (splice l a xs).length = l.length := length_splice _ _ _ (by omega)
  apply List.ext_getElem?
  intro i
  rw [splice_get _ _ _ (by rw [h1]; omega), splice_get _ _ _ (by omega), splice_get _ _ _ (by simp; omega)]
  simp only [List.length_append]
  by_cases c1 : a ≤ i ∧ i < a + (xs.length + ys.length)
  · rw [if_pos c1]
    by_cases c2 : a + xs.length ≤ i
    · rw [if_pos (by omega), List.getElem?_append_right (by omega)]
      congr 1
      omega
    · rw [if_neg (by omega), if_pos (by omega), List.getElem?_append_left (by omega)]
  · rw [if_neg c1, if_neg (by omega), if_neg (by omega)]
theorem splice_set {α : Type} (l : List α) (a : Nat) (x : α) (h : a < l.length) : splice l a [x] = l.set a x := by
  apply List.ext_getElem?
  intro i
  rw [splice_get _ _ _ (by simp; omega), List.getElem?_set]
  simp only [List.length_singleton]
  by_cases c : a = i
  · subst c; rw [if_pos (by omega), if_pos rfl, if_pos h]; simp
  · rw [if_neg (by omega), if_neg c]

/-- a block of bytes. -/
def Buf (w : World) (g : Nat) (l : List UInt8) : Prop := w.heap[g]? = some (.cells (bcells l).toArray 5 (0, 0))
theorem Buf.lt {w : World} {g : Nat} {l : List UInt8} (h : Buf w g l) : g < w.heap.size := lt_of_block h
theorem Buf.cell {w : World} {g : Nat} {l : List UInt8} (h : Buf w g l) (i : Nat) (hi : i < l.length) : w.cell? ⟨g, i, none⟩ = some (.int .u8 ((l[i]).toNat : Int)) := by
  unfold Buf at h
  simp [World.cell?, h, bcells, hi, bval]
theorem Buf.frozen {w : World} {g : Nat} {l : List UInt8} (h : Buf w g l) (i : Nat) : w.frozen? ⟨g, i, none⟩ = false := by
  unfold Buf at h
  simp [World.frozen?, h]
theorem Buf.keep {w w' : World} {g : Nat} {l : List UInt8} (h : Buf w g l) (hk : w'.heap[g]? = w.heap[g]?) : Buf w' g l := by unfold Buf; rw [hk]; exact h
theorem Buf.below {w w' : World} {g : Nat} {l : List UInt8} (h : Buf w g l) (hb : Below w.heap.size w w') : Buf w' g l := h.keep (hb.block g h.lt)
theorem Buf.set {w : World} {g : Nat} {l : List UInt8} (h : Buf w g l) (i : Nat) (c : UInt8) : Buf (w.setCell ⟨g, i, none⟩ (.int .u8 (c.toNat : Int))) g (l.set i c) := by
  unfold Buf at h ⊢
  simp only [World.setCell, Array.getElem?_modify, if_pos, h, Option.map_some]
  congr 2
  apply Array.ext'
  simp [bcells, bval, List.map_set]
theorem Buf.bs {w : World} {g B : Nat} {l : List UInt8} (h : Buf w g l) (hB : g < B) : Bs B w (some ⟨g, 0, none⟩) l := fun i hi => by
  have hi' : i < l.length := by simpa [bcells] using hi
  exact ⟨g, 0, rfl, hB, by rw [Nat.zero_add, h.cell i hi']; simp [bcells, bval]⟩
theorem bcells_splice (l : List UInt8) (a : Nat) (xs : List UInt8) : splice (bcells l) a (bcells xs) = bcells (splice l a xs) := by
  simp [splice, bcells, List.map_take, List.map_drop]
end Go.Pat
namespace Go.Proofs
open Go Go.RowKit Go.Pat

end Go.Proofs

/- Numbers as bytes: patinaref04.number, elf.get, patinaref04.read; append of bytes. -/
namespace Go.Proofs
open Go Go.RowKit Go.Pat

theorem OwnB.form {w : World} {base : Nat} {v : Value} {l : List UInt8} (h : OwnB w base v l) : ∃ A c, v = .slice A l.length c ∧ Bs w.heap.size w A l := by
  rcases h.2 with ⟨rfl, h0⟩ | ⟨g, cap, cur, rfl, _, hh, hn, hm, hc, ht⟩
  · exact ⟨none, 0, by rw [h0], fun i hi => by rw [bcells_length] at hi; omega⟩
  · exact ⟨_, cap, rfl, Cs.of_own (c := cap) h⟩
theorem OwnB.below {w w' : World} {base : Nat} {v : Value} {l : List UInt8} (h : OwnB w base v l) (hb : Below w.heap.size w w') : OwnB w' base v l := by
  refine ⟨h.1, ?_⟩
  rcases h.2 with h0 | ⟨g, cap, cur, hv, hg, hh, r⟩
  · exact .inl h0
  · exact .inr ⟨g, cap, cur, hv, hg, (hb.block g (lt_of_block hh)).trans hh, r⟩
theorem OwnB.nil (w : World) (base : Nat) : OwnB w base (.slice none 0 0) [] := ⟨rfl, .inl ⟨rfl, rfl⟩⟩
theorem OwnB.alloc {w : World} {base : Nat} {v : Value} {l : List UInt8} (h : OwnB w base v l) (o : Obj) : OwnB (w.alloc o) base v l := h.below ((Below.refl _ _).alloc (Nat.le_refl _) _)
theorem OwnB.keep {w w' : World} {base : Nat} {v : Value} {l : List UInt8} (h : OwnB w base v l) (hb : ∀ g, v.ownBlock = some g → w'.heap[g]? = w.heap[g]?) : OwnB w' base v l := by
  refine ⟨h.1, ?_⟩
  rcases h.2 with h0 | ⟨g, cap, cur, rfl, hg, hh, r⟩
  · exact .inl h0
  · exact .inr ⟨g, cap, cur, rfl, hg, (hb g rfl).trans hh, r⟩
theorem OwnB.block {w : World} {base : Nat} {v : Value} {l : List UInt8} (h : OwnB w base v l) {g : Nat} (hg : v.ownBlock = some g) : base ≤ g ∧ ∃ cur, w.heap[g]? = some (.cells cur 5 (0, 0)) := by
  rcases h.2 with ⟨rfl, _⟩ | ⟨g2, cap, cur, rfl, h1, hh, _⟩
  · cases hg
  · obtain rfl : g2 = g := by simpa [Value.ownBlock] using hg
    exact ⟨h1, cur, hh⟩
theorem OwnB.base {w : World} {base b2 : Nat} {v : Value} {l : List UInt8} (h : OwnB w base v l) (hb : b2 ≤ base) : OwnB w b2 v l := by
  refine ⟨h.1, ?_⟩
  rcases h.2 with h0 | ⟨g, cap, cur, hv, hg, r⟩
  · exact .inl h0
  · exact .inr ⟨g, cap, cur, hv, by omega, r⟩

theorem wpList_appB {ops : Array Oper} {rest : List Oper} {o : Oper} {a : Act} {Q : Exit → Act → World → Prop} (w : World) (hgd : o.guard = none) (s x : Operand)
    (ho : o.op = .call { callee := .builtin .append, args := #[s, x], argTypes := #[35, 35] }) (base : Nat) (v : Value) (l : List UInt8) (hs : a.eval s = v) (hown : OwnB w base v l)
    (B : Nat) (A : Option Addr) (n c : Nat) (m : List UInt8) (hx : a.eval x = .slice A n c) (hn : m.length = n) (hr : Bs B w A m) (hlen : l.length + n ≤ 140737488355328) (hbase : base ≤ w.heap.size)
    (h : ∀ v' w', OwnB w' base v' (l ++ m) → (∀ W, Below base W w → Below base W w') → (v' = .slice none 0 0 ↔ v = .slice none 0 0 ∧ n = 0) → wpList Tryz.prog ops Q rest (a.put o.dst v') w') :
    wpList Tryz.prog ops Q (o :: rest) a w := by
  refine wpList_app w hgd s x 35 ho Tryz_elU8 base v l.length (bcells l) hs hown B A n c (bcells m) hx (by rw [bcells_length, hn, Nat.mul_one]) hr (bcells_one m) (by simp only [maxLen]; omega) (by rw [Nat.mul_one]; exact hlen) hbase ?_
  intro v' w' h1 hg hnil hat
  refine h v' w' ?_ (fun W hW => own_below hown hW hg hbase) hnil
  unfold OwnB
  rw [List.length_append, hn, bcells_append]
  exact h1

theorem lit_bs (w : World) (x : Int) (c : UInt8) (t : TypeId) (hx : x = (c.toNat : Int)) : Bs (w.alloc (.cells #[.int .u8 x] t)).heap.size (w.alloc (.cells #[.int .u8 x] t)) (some ⟨w.heap.size, 0, none⟩) [c] := by
  subst hx
  intro i hi
  obtain rfl : i = 0 := by simp [bcells] at hi; omega
  refine ⟨w.heap.size, 0, rfl, by simp, ?_⟩
  unfold World.cell?
  rw [show (w.alloc (.cells #[.int .u8 (c.toNat : Int)] t)).heap[w.heap.size]? = some (.cells #[.int .u8 (c.toNat : Int)] t) from Array.getElem?_push_size]
  rfl

theorem num_front (l : List UInt8) (a k : Nat) : num l a (k + 1) = num l (a + 1) k * 256 + (l.getD a 0).toNat := by
  induction k with
  | zero => simp [num]
  | succ k ih =>
    rw [num, ih, num, Nat.pow_succ, show a + 1 + k = a + (k + 1) by omega, Nat.add_mul]
    rw [← Nat.mul_assoc]
    omega

end Go.Proofs

/- patinaplain.Bytes tells whether bytes are equal. -/
namespace Go.Proofs
open Go Go.RowKit Go.Pat

theorem run_str (w : World) (A : Option Addr) (n cap B : Nat) (l : List UInt8) (hr : Bs B w A l) (hn : l.length = n) :
    (convert 35 9 (.slice A n cap)).run Tryz.prog w = .ok (.string ⟨l.toArray⟩) w := by
  subst hn
  cases A with
  | none =>
    have h0 : l = [] := by
      cases l with
      | nil => rfl
      | cons x r => obtain ⟨_, _, e, _⟩ := hr 0 (by simp [bcells]); cases e
    subst h0
    exact Lib.run_convert_nil_bytes w _ _ 5 cap Tryz.underlying35 Tryz.underlying5 Tryz.underlying9
  | some a =>
    refine run_convert_bytes_back w _ _ 5 a cap l Tryz.underlying35 Tryz.underlying5 Tryz.underlying9 ?_
    intro j hj
    exact hr.news rfl j _ (by simp [bcells, hj, bval])
theorem str_eq (l m : List UInt8) : ((⟨l.toArray⟩ : ByteArray) = ⟨m.toArray⟩) ↔ l = m := by
  constructor
  · intro h; have := congrArg ByteArray.data h; simpa using this
  · rintro rfl; rfl
set_option maxHeartbeats 1000000 in
theorem pBytes_any (w : World) (A1 A2 : Option Addr) (n1 n2 c1 c2 B1 B2 : Nat) (l m : List UInt8) (h1 : Bs B1 w A1 l) (h2 : Bs B2 w A2 m) (e1 : l.length = n1) (e2 : m.length = n2) :
    Calls Tryz.prog 23 #[.slice A1 n1 c1, .slice A2 n2 c2] w fun e w' => e = .returned (.bool (l == m)) ∧ w = w' := by
  have r1 := run_str w A1 n1 c1 B1 l h1 e1
  have r2 := run_str w A2 n2 c2 B2 m h2 e2
  go_enter Tryz.func23, Tryz.ntmps23
  go_wp2
  go_ret
  exact ⟨rfl, rfl⟩
end Go.Proofs

/- Blocks of cells: two small laws. -/
namespace Go.Proofs
open Go Go.RowKit Go.Pat
theorem obj_cell {w : World} {b : Nat} {cs : Array Value} {t : TypeId} (h : w.heap[b]? = some (.cells cs t (0, 0))) (i : Nat) : w.cell? ⟨b, i, none⟩ = cs[i]? := by simp [World.cell?, h]
theorem obj_alloc {w : World} {b : Nat} {o o2 : Obj} (h : w.heap[b]? = some o) : (w.alloc o2).heap[b]? = some o := (Below.heap_alloc w o2 b (lt_of_block h)).trans h
theorem obj_frozen {w : World} {b : Nat} {cs : Array Value} {t : TypeId} (h : w.heap[b]? = some (.cells cs t (0, 0))) (i : Nat) : w.frozen? ⟨b, i, none⟩ = false := by simp [World.frozen?, h]
theorem obj_set {w : World} {b : Nat} {cs : Array Value} {t : TypeId} (h : w.heap[b]? = some (.cells cs t (0, 0))) (i : Nat) (v : Value) : (w.setCell ⟨b, i, none⟩ v).heap[b]? = some (.cells (cs.setIfInBounds i v) t (0, 0)) := by simp [World.setCell, Array.getElem?_modify, h]
end Go.Proofs

/- append as one step of a region that draws. -/
namespace Go.Pat
open Go Go.RowKit
theorem step_app {P : Program} {ops : Array Oper} {o : Oper} {a : Act} {w : World} {K : Act → World → Prop} {Q : Exit → Act → World → Prop} {E : Prop} (hgd : o.guard = none) (s x : Operand) (t : TypeId)
    (ho : o.op = .call { callee := .builtin .append, args := #[s, x], argTypes := #[t, t] })
    {e : TypeId} {z : Value} {size bytes : Nat} (hE : ElT P t e z size bytes) (base : Nat)
    (v : Value) (n : Nat) (xs : List Value) (hs : a.eval s = v) (hown : w.ownsRow base e size v n xs)
    (B : Nat) (A : Option Addr) (m c : Nat) (news : List Value) (hx : a.eval x = .slice A m c) (hl : news.length = m * size) (hr : Cs B w A news) (h1 : ∀ u ∈ news, u.oneCell' = true)
    (h63 : n + m ≤ maxLen) (hbytes : (n + m) * bytes ≤ 140737488355328) (hbase : base ≤ w.heap.size)
    (h : ∀ v' w', w'.ownsRow base e size v' (n + m) (xs ++ news) → w.grownBy w' v.ownBlock → (v' = .slice none 0 0 ↔ v = .slice none 0 0 ∧ m = 0) → (v'.ownBlock = v.ownBlock ∨ v'.ownBlock = some w.heap.size) → K (a.put o.dst v') w') :
    if Region.wanted o (yielded ops a.tmps) = true then Oper.wp P o a w K Q else E := by
  have hw : Region.wanted o (yielded ops a.tmps) = true := by simp [Region.wanted, hgd]
  rw [if_pos hw]
  obtain ⟨v', w', hr, h2, h3, h4, h5⟩ := run_app (P := P) w (ty := o.type) hE base v n xs hown B A m c news hl hr h1 h63 hbytes hbase
  unfold Oper.wp execOp
  simp only [ho, resolve, invoke, builtin, Sem.run_bind, Sem.run_pure, Result.andThen_ok, List.map_toArray, List.map_cons, List.map_nil, hs, hx, hr]
  exact h v' w' h2 h3 h4 h5
end Go.Pat
namespace Go.Proofs
open Go Go.RowKit Go.Pat

theorem step_appB {ops : Array Oper} {o : Oper} {a : Act} {w : World} {K : Act → World → Prop} {Q : Exit → Act → World → Prop} {E : Prop} (hgd : o.guard = none) (s x : Operand)
    (ho : o.op = .call { callee := .builtin .append, args := #[s, x], argTypes := #[35, 35] }) (base : Nat) (v : Value) (l : List UInt8) (hs : a.eval s = v) (hown : OwnB w base v l)
    (B : Nat) (A : Option Addr) (n c : Nat) (m : List UInt8) (hx : a.eval x = .slice A n c) (hn : m.length = n) (hr : Bs B w A m) (hlen : l.length + n ≤ 140737488355328) (hbase : base ≤ w.heap.size)
    (h : ∀ v' w', OwnB w' base v' (l ++ m) → (∀ W, Below base W w → Below base W w') → (∀ g, g < w.heap.size → v.ownBlock ≠ some g → w'.heap[g]? = w.heap[g]?) → K (a.put o.dst v') w') :
    if Region.wanted o (yielded ops a.tmps) = true then Oper.wp Tryz.prog o a w K Q else E := by
  refine step_app hgd s x 35 ho Tryz_elU8 base v l.length (bcells l) hs hown B A n c (bcells m) hx (by rw [bcells_length, hn, Nat.mul_one]) hr (bcells_one m) (by simp only [maxLen]; omega) (by rw [Nat.mul_one]; exact hlen) hbase ?_
  intro v' w' h1 hg hnil hat
  refine h v' w' ?_ (fun W hW => own_below hown hW hg hbase) (fun g hg1 hg2 => hg.block g hg1 (fun e => hg2 e.symm))
  unfold OwnB
  rw [List.length_append, hn, bcells_append]
  exact h1

end Go.Proofs

/- A slice of pages of the call's own. -/
namespace Go.Pat
open Go Go.RowKit

def PgIn.cells (s : PgIn) : List Value := [.int .u64 (s.base : Int), .int .i64 s.perm, .slice s.A s.data.length s.cap]
def pcells : List PgIn → List Value
  | [] => []
  | s :: r => s.cells ++ pcells r
theorem pcells_length (ss : List PgIn) : (pcells ss).length = ss.length * 3 := by
  induction ss with
  | nil => rfl
  | cons s r ih => simp [pcells, PgIn.cells, ih]; omega
theorem pcells_append (a b : List PgIn) : pcells (a ++ b) = pcells a ++ pcells b := by
  induction a with
  | nil => rfl
  | cons s r ih => simp [pcells, ih]
theorem pcells_one (ss : List PgIn) : ∀ u ∈ pcells ss, u.oneCell' = true := by
  induction ss with
  | nil => intro u hu; cases hu
  | cons s r ih =>
    intro u hu
    simp only [pcells, PgIn.cells, List.cons_append, List.nil_append, List.mem_cons] at hu
    rcases hu with rfl | rfl | rfl | h
    · rfl
    · rfl
    · rfl
    · exact ih u h
theorem pcells_get (ss : List PgIn) (i : Nat) (hi : i < ss.length) (j : Nat) (hj : j < 3) : (pcells ss)[i * 3 + j]? = (ss[i].cells)[j]? := by
  induction ss generalizing i with
  | nil => simp at hi
  | cons s r ih =>
    cases i with
    | zero => simp only [pcells, Nat.zero_mul, Nat.zero_add, List.getElem_cons_zero]; rw [List.getElem?_append_left (by simp [PgIn.cells]; omega)]
    | succ i =>
      rw [show (i + 1) * 3 + j = 3 + (i * 3 + j) by omega]
      simp only [pcells, List.getElem_cons_succ]
      rw [List.getElem?_append_right (by simp [PgIn.cells])]
      simp only [PgIn.cells, List.length_cons, List.length_nil]
      rw [show 3 + (i * 3 + j) - (0 + 1 + 1 + 1) = i * 3 + j by omega]
      exact ih i (by simpa using hi)
end Go.Pat
namespace Go.Proofs
open Go Go.RowKit Go.Pat

theorem Tryz_elPg : ElT Tryz.prog 69 112 (.agg #[.int .u64 0, .int .i64 0, .slice none 0 0]) 3 40 := ⟨Tryz.underlying69, by kernel_rfl, rfl, by decide⟩
def OwnP (w : World) (base : Nat) (v : Value) (ss : List PgIn) : Prop := w.ownsRow base 112 3 v ss.length (pcells ss)
theorem OwnP.form {w : World} {base : Nat} {v : Value} {ss : List PgIn} (h : OwnP w base v ss) : ∃ A c, v = .slice A ss.length c ∧ Cs w.heap.size w A (pcells ss) := by
  rcases h.2 with ⟨rfl, h0⟩ | ⟨g, cap, cur, rfl, _, hh, hn, hm, hc, ht⟩
  · exact ⟨none, 0, by rw [h0], fun i hi => by rw [pcells_length] at hi; omega⟩
  · exact ⟨_, cap, rfl, Cs.of_own (c := cap) h⟩
theorem OwnP.keep {w w' : World} {base : Nat} {v : Value} {ss : List PgIn} (h : OwnP w base v ss) (hb : ∀ g, v.ownBlock = some g → w'.heap[g]? = w.heap[g]?) : OwnP w' base v ss := by
  refine ⟨h.1, ?_⟩
  rcases h.2 with h0 | ⟨g, cap, cur, rfl, hg, hh, r⟩
  · exact .inl h0
  · exact .inr ⟨g, cap, cur, rfl, hg, (hb g rfl).trans hh, r⟩
theorem OwnP.below {w w' : World} {base : Nat} {v : Value} {ss : List PgIn} (h : OwnP w base v ss) (hb : Below w.heap.size w w') : OwnP w' base v ss := h.keep fun g hg => hb.block g (h.lt g hg).2
theorem OwnP.nil (w : World) (base : Nat) : OwnP w base (.slice none 0 0) [] := ⟨rfl, .inl ⟨rfl, rfl⟩⟩
theorem OwnP.block {w : World} {base : Nat} {v : Value} {ss : List PgIn} (h : OwnP w base v ss) {g : Nat} (hg : v.ownBlock = some g) : base ≤ g ∧ ∃ cur, w.heap[g]? = some (.cells cur 112 (0, 0)) := by
  rcases h.2 with ⟨rfl, _⟩ | ⟨g2, cap, cur, rfl, h1, hh, _⟩
  · cases hg
  · obtain rfl : g2 = g := by simpa [Value.ownBlock] using hg
    exact ⟨h1, cur, hh⟩
/-- segments of the call's own, their bytes too. -/
structure OwnPs (w : World) (base : Nat) (v : Value) (ss : List PgIn) : Prop where
  row : OwnP w base v ss
  bytes : ∀ s ∈ ss, OwnB w base (.slice s.A s.data.length s.cap) s.data
  small : ∀ s ∈ ss, s.base < 18446744073709551616 ∧ s.data.length ≤ 140737488351232
theorem OwnPs.below {w w' : World} {base : Nat} {v : Value} {ss : List PgIn} (h : OwnPs w base v ss) (hb : Below w.heap.size w w') : OwnPs w' base v ss :=
  ⟨h.row.below hb, fun s hs => (h.bytes s hs).below hb, h.small⟩
theorem OwnPs.nil (w : World) (base : Nat) : OwnPs w base (.slice none 0 0) [] := ⟨.nil w base, by simp, by simp⟩
/-- a store outside of them. -/
theorem OwnPs.put {w w' : World} {base : Nat} {v : Value} {ss : List PgIn} (h : OwnPs w base v ss) {r : Nat} {cs : Array Value} {t : TypeId} {fr : Nat × Nat} (hr : w.heap[r]? = some (.cells cs t fr)) (h1 : t ≠ 112) (h2 : t ≠ 5)
    (hb : KeptBut (fun b => b = r) w w') : OwnPs w' base v ss := by
  refine ⟨h.row.keep fun g hg => ?_, fun s hs => (h.bytes s hs).keep fun g hg => ?_, h.small⟩
  · obtain ⟨_, cur, hc⟩ := h.row.block hg
    refine hb.block g (lt_of_block hc) ?_
    rintro rfl
    rw [hr] at hc
    cases hc
    exact h1 rfl
  · obtain ⟨_, cur, hc⟩ := (h.bytes s hs).block hg
    refine hb.block g (lt_of_block hc) ?_
    rintro rfl
    rw [hr] at hc
    cases hc
    exact h2 rfl
theorem OwnPs.pgs {w : World} {base : Nat} {v : Value} {ss : List PgIn} (h : OwnPs w base v ss) (hf : ss.length ≤ 140737488351232) : ∃ A c, v = .slice A ss.length c ∧ PgsAt w.heap.size w A ss := by
  obtain ⟨A, c, rfl, hc⟩ := h.row.form
  refine ⟨A, c, rfl, fun i hi => ?_, fun s hs => ?_, h.small, hf⟩
  · have hlen := pcells_length ss
    have gt : ∀ j, j < 3 → ∃ b o, A = some ⟨b, o, none⟩ ∧ b < w.heap.size ∧ w.cell? ⟨b, o + (i * 3 + j), none⟩ = (ss[i].cells)[j]? := fun j hj => by
      obtain ⟨b, o, e, hb, hx⟩ := hc (i * 3 + j) (by omega)
      refine ⟨b, o, e, hb, ?_⟩
      rw [hx, ← pcells_get ss i hi j hj, List.getElem?_eq_getElem (by omega)]
    obtain ⟨b, o, rfl, hb, g0⟩ := gt 0 (by omega)
    obtain ⟨b1, o1, e1, _, g1⟩ := gt 1 (by omega)
    obtain ⟨b2, o2, e2, _, g2⟩ := gt 2 (by omega)
    cases e1
    cases e2
    exact ⟨b, o, rfl, hb, g0, g1, g2⟩
  · obtain ⟨A2, c2, e, hb⟩ := (h.bytes s hs).form
    cases e
    exact hb

theorem wpList_appP {ops : Array Oper} {rest : List Oper} {o : Oper} {a : Act} {Q : Exit → Act → World → Prop} (w : World) (hgd : o.guard = none) (x y : Operand)
    (ho : o.op = .call { callee := .builtin .append, args := #[x, y], argTypes := #[69, 69] }) (base : Nat) (v : Value) (ss : List PgIn) (hx : a.eval x = v) (hown : OwnPs w base v ss)
    (b c : Nat) (s : PgIn) (hy : a.eval y = .slice (some ⟨b, 0, none⟩) 1 c) (hb : w.heap[b]? = some (.cells s.cells.toArray 112 (0, 0))) (_hnb : v.ownBlock ≠ some b) (hsb : OwnB w base (.slice s.A s.data.length s.cap) s.data)
    (hss : s.base < 18446744073709551616 ∧ s.data.length ≤ 140737488351232) (hlen : ss.length + 1 ≤ 100000) (hbase : base ≤ w.heap.size)
    (h : ∀ v' w', OwnPs w' base v' (ss ++ [s]) → (∀ W, Below base W w → Below base W w') → (∀ g, g < w.heap.size → v.ownBlock ≠ some g → w'.heap[g]? = w.heap[g]?) → wpList Tryz.prog ops Q rest (a.put o.dst v') w') :
    wpList Tryz.prog ops Q (o :: rest) a w := by
  have hcs : Cs w.heap.size w (some ⟨b, 0, none⟩) (pcells [s]) := fun i hi => by
    have hi4 : i < 3 := by simpa [pcells, PgIn.cells] using hi
    refine ⟨b, 0, rfl, lt_of_block hb, ?_⟩
    simp only [World.cell?, hb, Nat.zero_add]
    simp [pcells]
  refine wpList_app w hgd x y 69 ho Tryz_elPg base v ss.length (pcells ss) hx hown.row _ (some ⟨b, 0, none⟩) 1 c (pcells [s]) hy (by simp [pcells, PgIn.cells]) hcs (pcells_one [s]) (by simp only [maxLen]; omega) (by omega) hbase ?_
  intro v' w' h1 hg hnil hat
  have hk : ∀ g, g < w.heap.size → v.ownBlock ≠ some g → w'.heap[g]? = w.heap[g]? := fun g hg1 hg2 => hg.block g hg1 (fun e => hg2 e.symm)
  refine h v' w' ⟨?_, ?_, ?_⟩ (fun W hW => own_below hown.row hW hg hbase) hk
  · unfold OwnP
    rw [List.length_append, pcells_append]
    exact h1
  · have keepB : ∀ t : PgIn, OwnB w base (.slice t.A t.data.length t.cap) t.data → OwnB w' base (.slice t.A t.data.length t.cap) t.data := fun t ht => ht.keep fun g hgb => by
      obtain ⟨_, cur, hc⟩ := ht.block hgb
      refine hk g (lt_of_block hc) (fun e => ?_)
      obtain ⟨_, cur2, hc2⟩ := hown.row.block e
      rw [hc] at hc2
      cases hc2
    intro t ht
    rcases List.mem_append.1 ht with ht | ht
    · exact keepB t (hown.bytes t ht)
    · obtain rfl := List.mem_singleton.1 ht
      exact keepB t hsb
  · intro t ht
    rcases List.mem_append.1 ht with ht | ht
    · exact hown.small t ht
    · obtain rfl := List.mem_singleton.1 ht
      exact hss
end Go.Proofs
