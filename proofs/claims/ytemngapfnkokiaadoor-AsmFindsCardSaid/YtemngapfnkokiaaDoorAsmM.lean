/- asm.Assemble: a program's parts in memory, slices of numbers and of labels of the call's own. -/
import Derived.Test.YtemngapfnkokiaaDoorAsmQ
namespace Go.Pat
open Go Go.RowKit
def zcells (l : List Int) : List Value := l.map (Value.int .i64)
theorem zcells_length (l : List Int) : (zcells l).length = l.length := List.length_map _
theorem zcells_append (a b : List Int) : zcells (a ++ b) = zcells a ++ zcells b := List.map_append
theorem zcells_one (l : List Int) : ∀ u ∈ zcells l, u.oneCell' = true := fun u hu => by
  obtain ⟨z, _, rfl⟩ := List.mem_map.1 hu
  rfl
theorem TzTab.belowB {B : Nat} {W W' : World} (h : TzTab W) (hB : 0 < B) (hb : Below B W W') : TzTab W' :=
  ⟨Nat.lt_of_lt_of_le h.1 hb.size, fun j hj => (hb.cell (p := ⟨0, _, none⟩) hB).trans (h.2 j hj)⟩
theorem RvRows.belowB {B : Nat} {W W' : World} (h : RvRows W) (hB : 1 < B) (hb : Below B W W') : RvRows W' :=
  ⟨Nat.lt_of_lt_of_le h.1 hb.size, fun op ho j v hv => (hb.cell (p := ⟨1, _, none⟩) hB).trans (h.2 op ho j v hv)⟩
end Go.Pat
namespace Go.Proofs
open Go Go.RowKit Go.Pat
theorem Tryd_elInts : ElT Tryd.prog 57 3 (.int .i64 0) 1 8 := ⟨Tryd.underlying57, by kernel_rfl, rfl, by decide⟩
theorem Tryd_elLabs : ElT Tryd.prog 43 50 (.agg #[.string no, .int .u64 0]) 2 24 := ⟨Tryd.underlying43, by kernel_rfl, rfl, by decide⟩
section
variable {w w' : World} {base n size : Nat} {e : TypeId} {v : Value} {xs : List Value}
theorem owns_keep (h : w.ownsRow base e size v n xs) (hb : ∀ g, v.ownBlock = some g → w'.heap[g]? = w.heap[g]?) : w'.ownsRow base e size v n xs := by
  refine ⟨h.1, ?_⟩
  rcases h.2 with h0 | ⟨g, cap, cur, rfl, hg, hh, r⟩
  · exact .inl h0
  · exact .inr ⟨g, cap, cur, rfl, hg, (hb g rfl).trans hh, r⟩
theorem owns_below (h : w.ownsRow base e size v n xs) (hb : Below w.heap.size w w') : w'.ownsRow base e size v n xs := owns_keep h fun g hg => hb.block g (h.lt g hg).2
theorem owns_base {b2 : Nat} (h : w.ownsRow base e size v n xs) (hb : b2 ≤ base) : w.ownsRow b2 e size v n xs := by
  refine ⟨h.1, ?_⟩
  rcases h.2 with h0 | ⟨g, cap, cur, e2, hg, r⟩
  · exact .inl h0
  · exact .inr ⟨g, cap, cur, e2, Nat.le_trans hb hg, r⟩
theorem owns_block (h : w.ownsRow base e size v n xs) {g : Nat} (hg : v.ownBlock = some g) : base ≤ g ∧ ∃ cur, w.heap[g]? = some (.cells cur e (0, 0)) := by
  rcases h.2 with ⟨rfl, _⟩ | ⟨g2, cap, cur, rfl, h1, hh, _⟩
  · cases hg
  · obtain rfl : g2 = g := by simpa [Value.ownBlock] using hg
    exact ⟨h1, cur, hh⟩
end
def OwnZ (w : World) (base : Nat) (v : Value) (l : List Int) : Prop := w.ownsRow base 3 1 v l.length (zcells l)
def OwnL (w : World) (base : Nat) (v : Value) (l : List Lab) : Prop := w.ownsRow base 50 2 v l.length (lcells l)
theorem OwnZ.form {w : World} {base : Nat} {v : Value} {l : List Int} (h : OwnZ w base v l) : ∃ A c, v = .slice A l.length c ∧ Cs w.heap.size w A (zcells l) := by
  rcases h.2 with ⟨rfl, h0⟩ | ⟨g, cap, cur, rfl, _, hh, hn, hm, hc, ht⟩
  · exact ⟨none, 0, by rw [h0], fun i hi => by rw [zcells_length] at hi; omega⟩
  · exact ⟨_, cap, rfl, Cs.of_own (c := cap) h⟩
theorem OwnL.form {w : World} {base : Nat} {v : Value} {l : List Lab} (h : OwnL w base v l) : ∃ A c, v = .slice A l.length c ∧ Cs w.heap.size w A (lcells l) := by
  rcases h.2 with ⟨rfl, h0⟩ | ⟨g, cap, cur, rfl, _, hh, hn, hm, hc, ht⟩
  · exact ⟨none, 0, by rw [h0], fun i hi => by rw [lcells_length] at hi; omega⟩
  · exact ⟨_, cap, rfl, Cs.of_own (c := cap) h⟩
theorem OwnZ.nil (w : World) (base : Nat) : OwnZ w base (.slice none 0 0) [] := ⟨rfl, .inl ⟨rfl, rfl⟩⟩
theorem OwnL.nil (w : World) (base : Nat) : OwnL w base (.slice none 0 0) [] := ⟨rfl, .inl ⟨rfl, rfl⟩⟩
theorem wpList_appZ {ops : Array Oper} {rest : List Oper} {o : Oper} {a : Act} {Q : Exit → Act → World → Prop} (w : World) (hgd : o.guard = none) (x y : Operand)
    (ho : o.op = .call { callee := .builtin .append, args := #[x, y], argTypes := #[57, 57] }) (base : Nat) (v : Value) (l : List Int) (hx : a.eval x = v) (hown : OwnZ w base v l)
    (B : Nat) (A : Option Addr) (m c : Nat) (news : List Int) (hy : a.eval y = .slice A m c) (hm : news.length = m) (hr : Cs B w A (zcells news)) (hlen : l.length + m ≤ 1000000000) (hbase : base ≤ w.heap.size)
    (h : ∀ v' w', OwnZ w' base v' (l ++ news) → (∀ W, Below base W w → Below base W w') → (∀ g, g < w.heap.size → v.ownBlock ≠ some g → w'.heap[g]? = w.heap[g]?) → NewOr w v v' → w.heap.size ≤ w'.heap.size → wpList Tryd.prog ops Q rest (a.put o.dst v') w') :
    wpList Tryd.prog ops Q (o :: rest) a w := by
  refine wpList_app w hgd x y 57 ho Tryd_elInts base v l.length (zcells l) hx hown _ A m c (zcells news) hy (by rw [zcells_length, hm, Nat.mul_one]) hr (zcells_one news) (by simp only [maxLen]; omega) (by omega) hbase ?_
  intro v' w' h1 hg hnil hat
  refine h v' w' ?_ (fun W hW => own_below hown hW hg hbase) (fun g hg1 hg2 => hg.block g hg1 (fun e => hg2 e.symm)) (fun g hg3 => ?_) hg.size
  · unfold OwnZ
    rw [List.length_append, hm, zcells_append]
    exact h1
  · rcases hat with h2 | h2
    · exact .inl (h2 ▸ hg3)
    · rw [h2] at hg3
      exact .inr (by have := Option.some.inj hg3; omega)
theorem wpList_appL {ops : Array Oper} {rest : List Oper} {o : Oper} {a : Act} {Q : Exit → Act → World → Prop} (w : World) (hgd : o.guard = none) (x y : Operand)
    (ho : o.op = .call { callee := .builtin .append, args := #[x, y], argTypes := #[43, 43] }) (base : Nat) (v : Value) (l : List Lab) (hx : a.eval x = v) (hown : OwnL w base v l)
    (B : Nat) (A : Option Addr) (m c : Nat) (news : List Lab) (hy : a.eval y = .slice A m c) (hm : news.length = m) (hr : Cs B w A (lcells news)) (hlen : l.length + m ≤ 1000000000) (hbase : base ≤ w.heap.size)
    (h : ∀ v' w', OwnL w' base v' (l ++ news) → (∀ W, Below base W w → Below base W w') → (∀ g, g < w.heap.size → v.ownBlock ≠ some g → w'.heap[g]? = w.heap[g]?) → NewOr w v v' → w.heap.size ≤ w'.heap.size → wpList Tryd.prog ops Q rest (a.put o.dst v') w') :
    wpList Tryd.prog ops Q (o :: rest) a w := by
  refine wpList_app w hgd x y 43 ho Tryd_elLabs base v l.length (lcells l) hx hown _ A m c (lcells news) hy (by rw [lcells_length, hm]) hr (lcells_one news) (by simp only [maxLen]; omega) (by omega) hbase ?_
  intro v' w' h1 hg hnil hat
  refine h v' w' ?_ (fun W hW => own_below hown hW hg hbase) (fun g hg1 hg2 => hg.block g hg1 (fun e => hg2 e.symm)) (fun g hg3 => ?_) hg.size
  · unfold OwnL
    rw [List.length_append, hm, lcells_append]
    exact h1
  · rcases hat with h2 | h2
    · exact .inl (h2 ▸ hg3)
    · rw [h2] at hg3
      exact .inr (by have := Option.some.inj hg3; omega)
/-- a program's parts, all but the items of the call's own. -/
structure Pm (B : Nat) (w : World) (p : Nat) (TA : Option Addr) (tc : Nat) (text : List It) (DA : Option Addr) (dc : Nat) (data : List It) (at_ dat mb nm : Nat) (F : Names) (sv : Value) (S : List Int) : Prop where
  pr : PrAt w p TA tc text DA dc data at_ dat mb sv
  tx : Cs B w TA (tcells text)
  dt : Cs B w DA (tcells data)
  hp : B ≤ p
  hm : B ≤ mb
  map : SMap w mb nm F
  szs : OwnZ w B sv S
  tz : TzTab w
  tb : 0 < B
  rv : RvRows w
  rb : 1 < B
theorem SMap.block {w : World} {b n : Nat} {F : Names} (h : SMap w b n F) : ∃ es c, w.heap[b]? = some (.map es c) := by
  obtain ⟨D, ⟨es, clock, hb, r⟩, h2⟩ := h
  exact ⟨_, _, hb⟩
section
variable {B : Nat} {w w' : World} {p : Nat} {TA : Option Addr} {tc : Nat} {text : List It} {DA : Option Addr} {dc : Nat} {data : List It} {at_ dat mb nm : Nat} {F : Names} {sv : Value} {S : List Int}
theorem Pm.lt (h : Pm B w p TA tc text DA dc data at_ dat mb nm F sv S) : p < w.heap.size := lt_of_block h.pr.str
theorem Pm.le (h : Pm B w p TA tc text DA dc data at_ dat mb nm F sv S) : B ≤ w.heap.size := Nat.le_trans h.hp (Nat.le_of_lt h.lt)
theorem Pm.keep (h : Pm B w p TA tc text DA dc data at_ dat mb nm F sv S) (hb : Below w.heap.size w w') : Pm B w' p TA tc text DA dc data at_ dat mb nm F sv S :=
  ⟨h.pr.below hb, h.tx.below (hb.mono h.le), h.dt.below (hb.mono h.le), h.hp, h.hm, h.map.below hb, owns_below h.szs hb, h.tz.below hb, h.tb, h.rv.below hb, h.rb⟩
theorem Pm.tx2 (h : Pm B w p TA tc text DA dc data at_ dat mb nm F sv S) : Cs w.heap.size w TA (tcells text) := h.pr.tx
theorem Pm.le_alloc (h : Pm B w p TA tc text DA dc data at_ dat mb nm F sv S) (o : Obj) : Below B w (w.alloc o) := (Below.refl _ _).alloc h.le _
theorem Pm.size_at {A : Option Addr} {n c : Nat} (h : Pm B w p TA tc text DA dc data at_ dat mb nm F (.slice A n c) S) (k : Nat) (hk : k < S.length) :
    ∃ b o, A = some ⟨b, o, none⟩ ∧ b < w.heap.size ∧ w.cell? ⟨b, o + k, none⟩ = some (.int .i64 S[k]) := by
  obtain ⟨A1, c1, e1, hS1⟩ := h.szs.form
  cases e1
  obtain ⟨b2, o2, rfl, hb2, y0⟩ := hS1 k (by rw [zcells_length]; exact hk)
  simp only [zcells, List.getElem_map] at y0
  exact ⟨b2, o2, rfl, hb2, y0⟩
/-- a name is given an address. -/
theorem Pm.put (h : Pm B w p TA tc text DA dc data at_ dat mb nm F sv S) {nm2 : Nat} {F2 : Names} (hM : SMap w' mb nm2 F2) (hg : w.grownBy w' (some mb)) : Pm B w' p TA tc text DA dc data at_ dat mb nm2 F2 sv S ∧ Below B w w' := by
  obtain ⟨es, c, hmb⟩ := h.map.block
  have hB : Below B w w' := (Below.refl B w).grown hg h.le fun k hk => by cases hk; exact h.hm
  have hpm : p ≠ mb := by
    rintro rfl
    rw [h.pr.str] at hmb
    cases hmb
  have hs : w.heap.size ≤ w'.heap.size := hg.size
  have htx := h.tx.below hB
  have hdt := h.dt.below hB
  refine ⟨⟨⟨(hg.block p h.lt (fun e => hpm (Option.some.inj e))).trans h.pr.str, htx.more (Nat.le_trans h.le hs), hdt.more (Nat.le_trans h.le hs), h.pr.tl, h.pr.dl⟩, htx, hdt, h.hp, h.hm, hM, owns_keep h.szs fun g hg2 => ?_, h.tz.belowB h.tb hB, h.tb, h.rv.belowB h.rb hB, h.rb⟩, hB⟩
  obtain ⟨_, cur, hc⟩ := owns_block h.szs hg2
  refine hg.block g (lt_of_block hc) (fun e => ?_)
  obtain rfl := Option.some.inj e
  rw [hmb] at hc
  cases hc
end
end Go.Proofs
