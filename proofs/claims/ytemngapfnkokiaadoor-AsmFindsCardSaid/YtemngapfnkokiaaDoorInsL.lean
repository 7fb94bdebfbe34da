/- Slices of instructions of the call's own; math/bits.TrailingZeros64. (tz_key and the two ways of TrailingZeros64 are turned from the kit's shelf.) -/
import Derived.Test.YtemngapfnkokiaaDoorBuf2
import Derived.Test.YtemngapfnkokiaaDoorDec
import Derived.Lib.TrailingZeros
import Derived.Laws.Bits64b
import Derived.Laws.OwnMore
namespace Go.Pat
open Go Go.RowKit
/-- an instruction. -/
structure In where
  op : Int
  rd : Int
  a : Int
  b : Int
  n : Int
deriving DecidableEq
def In.cells (i : In) : List Value := [.int .i64 i.op, .int .i64 i.rd, .int .i64 i.a, .int .i64 i.b, .int .i64 i.n]
def icells : List In → List Value
  | [] => []
  | i :: r => i.cells ++ icells r
theorem icells_length (l : List In) : (icells l).length = l.length * 5 := by
  induction l with
  | nil => rfl
  | cons i r ih => simp [icells, In.cells, ih]; omega
theorem icells_append (a b : List In) : icells (a ++ b) = icells a ++ icells b := by
  induction a with
  | nil => rfl
  | cons i r ih => simp [icells, ih]
theorem icells_one (l : List In) : ∀ u ∈ icells l, u.oneCell' = true := by
  induction l with
  | nil => intro u hu; cases hu
  | cons i r ih =>
    intro u hu
    simp only [icells, In.cells, List.cons_append, List.nil_append, List.mem_cons] at hu
    rcases hu with rfl | rfl | rfl | rfl | rfl | h
    · rfl
    · rfl
    · rfl
    · rfl
    · rfl
    · exact ih u h
theorem icells_get (l : List In) (i : Nat) (hi : i < l.length) (j : Nat) (hj : j < 5) : (icells l)[i * 5 + j]? = (l[i].cells)[j]? := by
  induction l generalizing i with
  | nil => simp at hi
  | cons s r ih =>
    cases i with
    | zero => simp only [icells, Nat.zero_mul, Nat.zero_add, List.getElem_cons_zero]; rw [List.getElem?_append_left (by simp [In.cells]; omega)]
    | succ i =>
      rw [show (i + 1) * 5 + j = 5 + (i * 5 + j) by omega]
      simp only [icells, List.getElem_cons_succ]
      rw [List.getElem?_append_right (by simp [In.cells])]
      simp only [In.cells, List.length_cons, List.length_nil]
      rw [show 5 + (i * 5 + j) - (0 + 1 + 1 + 1 + 1 + 1) = i * 5 + j by omega]
      exact ih i (by simpa using hi)
/-- the table of math/bits. -/
def TzTab (w : World) : Prop := 0 < w.heap.size ∧ ∀ j, j < 64 → w.cell? ⟨0, j, none⟩ = some (.int .u8 ((Lib.deBruijn64tab.getD j 0 : Nat) : Int))
theorem TzTab.below {W W' : World} (h : TzTab W) (hb : Below W.heap.size W W') : TzTab W' :=
  ⟨Nat.lt_of_lt_of_le h.1 hb.size, fun j hj => (hb.cell (p := ⟨0, _, none⟩) h.1).trans (h.2 j hj)⟩
theorem tz_key (x a : Nat) (hx : x < 18446744073709551616) (hx0 : x ≠ 0) (hlow : x &&& (18446744073709551616 - x) = a) :
    IntKind.u64.wrap (bits BinOp.and IntKind.u64 (x : Int) (IntKind.u64.wrap (-(x : Int))) * 285870213051353865) / 288230376151711744 = ((a * 285870213051353865 % 18446744073709551616 / 288230376151711744 : Nat) : Int) := by
  have e1 : IntKind.u64.wrap (-(x : Int)) = ((18446744073709551616 - x : Nat) : Int) := by rw [IntKind.wrap_u64]; omega
  rw [e1, bits_and_u64_nat x _ hx (by omega), hlow, IntKind.wrap_u64]
  omega
end Go.Pat
namespace Go.Proofs
open Go Go.RowKit Go.Pat
set_option maxHeartbeats 1000000 in
theorem tz_core (x k idx : Nat) (w : World) (hx0 : ((x : Int) == 0) = false)
    (key : IntKind.u64.wrap (bits BinOp.and IntKind.u64 (x : Int) (IntKind.u64.wrap (-(x : Int))) * 285870213051353865) / 288230376151711744 = (idx : Int))
    (hi : idx < 64) (hk : k < 64) (hcell : w.cell? ⟨0, idx, none⟩ = some (.int .u8 k)) :
    Calls Tryd.prog 68 #[.int .u64 x] w fun e w' => e = .returned (.int .i64 k) ∧ w' = w := by
  go_enter Tryd.func68, Tryd.ntmps68
  go_wp2_with (simp only [key])
  go_ret
  exact ⟨rfl, rfl⟩
theorem tz_any (x : Nat) (hx : x < 18446744073709551616) (hx0 : x ≠ 0) (w : World) (hT : TzTab w) :
    Calls Tryd.prog 68 #[.int .u64 x] w fun e w' => e = .returned (.int .i64 ((Lib.ctz 64 x : Nat) : Int)) ∧ w' = w := by
  obtain ⟨hlow, hk⟩ := Lib.lowest_bit 64 x hx0 hx
  obtain ⟨hi, htab⟩ := Lib.deBruijn64_at _ hk
  have hcell := hT.2 _ hi
  rw [htab] at hcell
  exact tz_core x _ _ w (by simp; omega) (tz_key x _ hx hx0 hlow) hi hk hcell
theorem Tryd_elIns : ElT Tryd.prog 22 32 (.agg #[.int .i64 0, .int .i64 0, .int .i64 0, .int .i64 0, .int .i64 0]) 5 40 := ⟨Tryd.underlying22, by kernel_rfl, rfl, by decide⟩
def OwnI (w : World) (base : Nat) (v : Value) (l : List In) : Prop := w.ownsRow base 32 5 v l.length (icells l)
theorem OwnI.form {w : World} {base : Nat} {v : Value} {l : List In} (h : OwnI w base v l) : ∃ A c, v = .slice A l.length c ∧ Cs w.heap.size w A (icells l) := by
  rcases h.2 with ⟨rfl, h0⟩ | ⟨g, cap, cur, rfl, _, hh, hn, hm, hc, ht⟩
  · exact ⟨none, 0, by rw [h0], fun i hi => by rw [icells_length] at hi; omega⟩
  · exact ⟨_, cap, rfl, Cs.of_own (c := cap) h⟩
theorem OwnI.keep {w w' : World} {base : Nat} {v : Value} {l : List In} (h : OwnI w base v l) (hb : ∀ g, v.ownBlock = some g → w'.heap[g]? = w.heap[g]?) : OwnI w' base v l := by
  refine ⟨h.1, ?_⟩
  rcases h.2 with h0 | ⟨g, cap, cur, rfl, hg, hh, r⟩
  · exact .inl h0
  · exact .inr ⟨g, cap, cur, rfl, hg, (hb g rfl).trans hh, r⟩
theorem OwnI.below {w w' : World} {base : Nat} {v : Value} {l : List In} (h : OwnI w base v l) (hb : Below w.heap.size w w') : OwnI w' base v l := h.keep fun g hg => hb.block g (h.lt g hg).2
theorem OwnI.base {w : World} {base b2 : Nat} {v : Value} {l : List In} (h : OwnI w base v l) (hb : b2 ≤ base) : OwnI w b2 v l := by
  refine ⟨h.1, ?_⟩
  rcases h.2 with h0 | ⟨g, cap, cur, e, hg, r⟩
  · exact .inl h0
  · exact .inr ⟨g, cap, cur, e, Nat.le_trans hb hg, r⟩
theorem OwnI.nil (w : World) (base : Nat) : OwnI w base (.slice none 0 0) [] := ⟨rfl, .inl ⟨rfl, rfl⟩⟩
theorem OwnI.lit (w : World) (base : Nat) (hb : base ≤ w.heap.size) (i : In) : OwnI (w.alloc (.cells #[.int .i64 i.op, .int .i64 i.rd, .int .i64 i.a, .int .i64 i.b, .int .i64 i.n] 32)) base (.slice (some ⟨w.heap.size, 0, none⟩) 1 1) [i] :=
  World.ownsRow_lit w #[.int .i64 i.op, .int .i64 i.rd, .int .i64 i.a, .int .i64 i.b, .int .i64 i.n] 1 hb (by decide) rfl
theorem lit_ins (w : World) (i : In) : Cs (w.alloc (.cells #[.int .i64 i.op, .int .i64 i.rd, .int .i64 i.a, .int .i64 i.b, .int .i64 i.n] 32)).heap.size (w.alloc (.cells #[.int .i64 i.op, .int .i64 i.rd, .int .i64 i.a, .int .i64 i.b, .int .i64 i.n] 32)) (some ⟨w.heap.size, 0, none⟩) (icells [i]) := fun j hj => by
  refine ⟨w.heap.size, 0, rfl, by rw [World.size_alloc]; omega, ?_⟩
  have h5 : j < 5 := by simpa [icells, In.cells] using hj
  rw [Nat.zero_add, cell_of_row _ _ j _ _ (0, 0) (heap_alloc_new w _)]
  simp [icells, In.cells]
/-- append of one instruction to a slice of the call's own. -/
theorem wpList_appI {ops : Array Oper} {rest : List Oper} {o : Oper} {a : Act} {Q : Exit → Act → World → Prop} (w : World) (hgd : o.guard = none) (x y : Operand)
    (ho : o.op = .call { callee := .builtin .append, args := #[x, y], argTypes := #[22, 22] }) (base : Nat) (v : Value) (l : List In) (hx : a.eval x = v) (hown : OwnI w base v l)
    (B : Nat) (A : Option Addr) (m c : Nat) (news : List In) (hy : a.eval y = .slice A m c) (hm : news.length = m) (hr : Cs B w A (icells news)) (hlen : l.length + m ≤ 1000000000) (hbase : base ≤ w.heap.size)
    (h : ∀ v' w', OwnI w' base v' (l ++ news) → (∀ W, Below base W w → Below base W w') → (∀ g, g < w.heap.size → v.ownBlock ≠ some g → w'.heap[g]? = w.heap[g]?) → wpList Tryd.prog ops Q rest (a.put o.dst v') w') :
    wpList Tryd.prog ops Q (o :: rest) a w := by
  refine wpList_app w hgd x y 22 ho Tryd_elIns base v l.length (icells l) hx hown _ A m c (icells news) hy (by rw [icells_length, hm]) hr (icells_one news) (by simp only [maxLen]; omega) (by omega) hbase ?_
  intro v' w' h1 hg hnil hat
  refine h v' w' ?_ (fun W hW => own_below hown hW hg hbase) (fun g hg1 hg2 => hg.block g hg1 (fun e => hg2 e.symm))
  unfold OwnI
  rw [List.length_append, hm, icells_append]
  exact h1
end Go.Proofs
