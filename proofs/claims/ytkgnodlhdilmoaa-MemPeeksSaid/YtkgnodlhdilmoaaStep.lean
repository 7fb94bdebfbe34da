/- append as one step of a region that draws; segments that are stored anew. -/
import Derived.Test.YtkgnodlhdilmoaaSays
namespace Go.Pat
open Go Go.RowKit
theorem step_app {P : Program} {ops : Array Oper} {o : Oper} {a : Act} {w : World} {K : Act → World → Prop} {Q : Exit → Act → World → Prop} {E : Prop} (hgd : o.guard = none) (s x : Operand) (t : TypeId)
    (ho : o.op = .call { callee := .builtin .append, args := #[s, x], argTypes := #[t, t] })
    {e : TypeId} {z : Value} {size bytes : Nat} (hE : ElT P t e z size bytes) (base : Nat)
    (v : Value) (n : Nat) (xs : List Value) (hs : a.eval s = v) (hown : w.ownsRow base e size v n xs)
    (B : Nat) (A : Option Addr) (m c : Nat) (news : List Value) (hx : a.eval x = .slice A m c) (hl : news.length = m * size) (hr : Cs B w A news) (h1 : ∀ u ∈ news, u.oneCell' = true)
    (h63 : n + m ≤ maxLen) (hbytes : (n + m) * bytes ≤ 140737488355328) (hbase : base ≤ w.heap.size)
    (h : ∀ v' w', w'.ownsRow base e size v' (n + m) (xs ++ news) → w.grownBy w' v.ownBlock → (v' = .slice none 0 0 ↔ v = .slice none 0 0 ∧ m = 0) → (v'.ownBlock = v.ownBlock ∨ v'.ownBlock = some w.heap.size) → K (a.put o.dst v') w') :
    if Region.wanted o (yielded ops a.tmps) = true then Oper.wp P o a w K Q else E := by
  have hw : Region.wanted o (yielded ops a.tmps) = true := by simp [Region.wanted, hgd]
  rw [if_pos hw]
  obtain ⟨v', w', hr, h2, h3, h4, h5⟩ := run_app (P := P) w (ty := o.type) hE base v n xs hown B A m c news hl hr h1 h63 hbytes hbase
  unfold Oper.wp execOp
  simp only [ho, resolve, invoke, builtin, Sem.run_bind, Sem.run_pure, Result.andThen_ok, List.map_toArray, List.map_cons, List.map_nil, hs, hx, hr]
  exact h v' w' h2 h3 h4 h5
theorem scells_set (ss : List Sg) (k : Nat) (hk : k < ss.length) (s : Sg) :
    (((((scells ss).set (k * 4) (.int .u64 (s.addr : Int))).set (k * 4 + 1) (.int .i64 s.perm)).set (k * 4 + 2) (.slice s.A s.data.length s.cap)).set (k * 4 + 3) (.int .u64 (s.size : Int))) = scells (ss.set k s) := by
  induction ss generalizing k with
  | nil => simp at hk
  | cons x r ih =>
    cases k with
    | zero => simp [scells, Sg.cells]
    | succ k =>
      have := ih k (by simpa using hk)
      rw [show (k + 1) * 4 = k * 4 + 4 by omega, show k * 4 + 4 + 1 = k * 4 + 1 + 4 by omega, show k * 4 + 4 + 2 = k * 4 + 2 + 4 by omega, show k * 4 + 4 + 3 = k * 4 + 3 + 4 by omega]
      simp only [scells, Sg.cells, List.cons_append, List.nil_append, List.set_cons_succ, List.set_cons_succ]
      rw [this]
end Go.Pat
namespace Go.Proofs
open Go Go.RowKit Go.Pat

theorem step_appB {ops : Array Oper} {o : Oper} {a : Act} {w : World} {K : Act → World → Prop} {Q : Exit → Act → World → Prop} {E : Prop} (hgd : o.guard = none) (s x : Operand)
    (ho : o.op = .call { callee := .builtin .append, args := #[s, x], argTypes := #[35, 35] }) (base : Nat) (v : Value) (l : List UInt8) (hs : a.eval s = v) (hown : OwnB w base v l)
    (B : Nat) (A : Option Addr) (n c : Nat) (m : List UInt8) (hx : a.eval x = .slice A n c) (hn : m.length = n) (hr : Bs B w A m) (hlen : l.length + n ≤ 140737488355328) (hbase : base ≤ w.heap.size)
    (h : ∀ v' w', OwnB w' base v' (l ++ m) → (∀ W, Below base W w → Below base W w') → (∀ g, g < w.heap.size → v.ownBlock ≠ some g → w'.heap[g]? = w.heap[g]?) → K (a.put o.dst v') w') :
    if Region.wanted o (yielded ops a.tmps) = true then Oper.wp Try.prog o a w K Q else E := by
  refine step_app hgd s x 35 ho Try_elU8 base v l.length (bcells l) hs hown B A n c (bcells m) hx (by rw [bcells_length, hn, Nat.mul_one]) hr (bcells_one m) (by simp only [maxLen]; omega) (by rw [Nat.mul_one]; exact hlen) hbase ?_
  intro v' w' h1 hg hnil hat
  refine h v' w' ?_ (fun W hW => own_below hown hW hg hbase) (fun g hg1 hg2 => hg.block g hg1 (fun e => hg2 e.symm))
  unfold OwnB
  rw [List.length_append, hn, bcells_append]
  exact h1

theorem OwnSs.grow {w w' : World} {base : Nat} {v v' : Value} {ss : List Sg} {s : Sg} (hown : OwnSs w base v ss) (hsb : OwnB w base (.slice s.A s.data.length s.cap) s.data)
    (hss : s.addr < 18446744073709551616 ∧ s.size < 18446744073709551616 ∧ s.data.length ≤ 140737488351232) (h1 : w'.ownsRow base 73 4 v' (ss.length + 1) (scells ss ++ scells [s]))
    (hk : ∀ g, g < w.heap.size → v.ownBlock ≠ some g → w'.heap[g]? = w.heap[g]?) : OwnSs w' base v' (ss ++ [s]) := by
  refine ⟨?_, ?_, ?_⟩
  · unfold OwnS
    rw [List.length_append, scells_append]
    exact h1
  · have keepB : ∀ t : Sg, OwnB w base (.slice t.A t.data.length t.cap) t.data → OwnB w' base (.slice t.A t.data.length t.cap) t.data := fun t ht => ht.keep fun g hgb => by
      obtain ⟨_, cur, hc⟩ := ht.block hgb
      refine hk g (lt_of_block hc) (fun e => ?_)
      obtain ⟨_, cur2, hc2⟩ := hown.row.block e
      rw [hc] at hc2
      cases hc2
    intro t ht
    rcases List.mem_append.1 ht with ht | ht
    · exact keepB t (hown.bytes t ht)
    · obtain rfl := List.mem_singleton.1 ht
      exact keepB t hsb
  · intro t ht
    rcases List.mem_append.1 ht with ht | ht
    · exact hown.small t ht
    · obtain rfl := List.mem_singleton.1 ht
      exact hss
theorem step_appS {ops : Array Oper} {o : Oper} {a : Act} {w : World} {K : Act → World → Prop} {Q : Exit → Act → World → Prop} {E : Prop} (hgd : o.guard = none) (x y : Operand)
    (ho : o.op = .call { callee := .builtin .append, args := #[x, y], argTypes := #[36, 36] }) (base : Nat) (v : Value) (ss : List Sg) (hx : a.eval x = v) (hown : OwnSs w base v ss)
    (b c : Nat) (s : Sg) (hy : a.eval y = .slice (some ⟨b, 0, none⟩) 1 c) (hb : w.heap[b]? = some (.cells s.cells.toArray 73 (0, 0))) (hsb : OwnB w base (.slice s.A s.data.length s.cap) s.data)
    (hss : s.addr < 18446744073709551616 ∧ s.size < 18446744073709551616 ∧ s.data.length ≤ 140737488351232) (hlen : ss.length + 1 ≤ 1000) (hbase : base ≤ w.heap.size)
    (h : ∀ v' w', OwnSs w' base v' (ss ++ [s]) → (∀ W, Below base W w → Below base W w') → (∀ g, g < w.heap.size → v.ownBlock ≠ some g → w'.heap[g]? = w.heap[g]?) → K (a.put o.dst v') w') :
    if Region.wanted o (yielded ops a.tmps) = true then Oper.wp Try.prog o a w K Q else E := by
  have hcs : Cs w.heap.size w (some ⟨b, 0, none⟩) (scells [s]) := fun i hi => by
    have hi4 : i < 4 := by simpa [scells, Sg.cells] using hi
    refine ⟨b, 0, rfl, lt_of_block hb, ?_⟩
    simp only [World.cell?, hb, Nat.zero_add]
    simp [scells]
  refine step_app hgd x y 36 ho Try_elSeg base v ss.length (scells ss) hx hown.row _ (some ⟨b, 0, none⟩) 1 c (scells [s]) hy (by simp [scells, Sg.cells]) hcs (scells_one [s]) (by simp only [maxLen]; omega) (by omega) hbase ?_
  intro v' w' h1 hg hnil hat
  have hk : ∀ g, g < w.heap.size → v.ownBlock ≠ some g → w'.heap[g]? = w.heap[g]? := fun g hg1 hg2 => hg.block g hg1 (fun e => hg2 e.symm)
  exact h v' w' (hown.grow hsb hss h1 hk) (fun W hW => own_below hown.row hW hg hbase) hk

/-- blocks of segments and of bytes are kept. -/
theorem OwnSs.keepT {w w' : World} {base : Nat} {v : Value} {ss : List Sg} (h : OwnSs w base v ss) (hk : ∀ (g : Nat) (cur : Array Value) (t : TypeId), w.heap[g]? = some (Obj.cells cur t (0, 0)) → (t = 73 ∨ t = 5) → w'.heap[g]? = w.heap[g]?) : OwnSs w' base v ss :=
  ⟨h.row.keep fun g hg => by obtain ⟨_, cur, hc⟩ := h.row.block hg; exact hk g cur _ hc (.inl rfl),
   fun s hs => (h.bytes s hs).keep fun g hg => by obtain ⟨_, cur, hc⟩ := (h.bytes s hs).block hg; exact hk g cur _ hc (.inr rfl), h.small⟩
theorem OwnI.block {e : TypeId} {k : IntKind} {w : World} {base : Nat} {v : Value} {l : List Nat} (h : OwnI e k w base v l) {g : Nat} (hg : v.ownBlock = some g) : base ≤ g ∧ ∃ cur, w.heap[g]? = some (.cells cur e (0, 0)) := by
  rcases h.2 with ⟨rfl, _⟩ | ⟨g2, cap, cur, rfl, h1, hh, _⟩
  · cases hg
  · obtain rfl : g2 = g := by simpa [Value.ownBlock] using hg
    exact ⟨h1, cur, hh⟩
/-- a segment that is stored anew. -/
theorem OwnSs.set4 {w : World} {base g cap n : Nat} {ss : List Sg} (h : OwnSs w base (.slice (some ⟨g, 0, none⟩) n cap) ss) (hn : ss.length = n) (k : Nat) (hk : k < n) (s : Sg) (hsb : OwnB w base (.slice s.A s.data.length s.cap) s.data)
    (hss : s.addr < 18446744073709551616 ∧ s.size < 18446744073709551616 ∧ s.data.length ≤ 140737488351232) :
    OwnSs ((((w.setCell ⟨g, k * 4, none⟩ (.int .u64 (s.addr : Int))).setCell ⟨g, k * 4 + 1, none⟩ (.int .i64 s.perm)).setCell ⟨g, k * 4 + 2, none⟩ (.slice s.A s.data.length s.cap)).setCell ⟨g, k * 4 + 3, none⟩ (.int .u64 (s.size : Int))) base
      (.slice (some ⟨g, 0, none⟩) n cap) (ss.set k s) := by
  subst hn
  have h0 := h.row
  unfold OwnS at h0
  have h1 := (h0.stored (k * 4) (.int .u64 (s.addr : Int))).1
  have h2 := (h1.stored (k * 4 + 1) (.int .i64 s.perm)).1
  have h3 := (h2.stored (k * 4 + 2) (.slice s.A s.data.length s.cap)).1
  have h4 := (h3.stored (k * 4 + 3) (.int .u64 (s.size : Int))).1
  rw [scells_set ss k hk s] at h4
  have hkeep : ∀ x, x ≠ g → ((((w.setCell ⟨g, k * 4, none⟩ (.int .u64 (s.addr : Int))).setCell ⟨g, k * 4 + 1, none⟩ (.int .i64 s.perm)).setCell ⟨g, k * 4 + 2, none⟩ (.slice s.A s.data.length s.cap)).setCell ⟨g, k * 4 + 3, none⟩ (.int .u64 (s.size : Int))).heap[x]? = w.heap[x]? := fun x hx => by
    rw [Below.heap_setCell _ _ _ _ hx, Below.heap_setCell _ _ _ _ hx, Below.heap_setCell _ _ _ _ hx, Below.heap_setCell _ _ _ _ hx]
  have keepB : ∀ t : Sg, OwnB w base (.slice t.A t.data.length t.cap) t.data → OwnB ((((w.setCell ⟨g, k * 4, none⟩ (.int .u64 (s.addr : Int))).setCell ⟨g, k * 4 + 1, none⟩ (.int .i64 s.perm)).setCell ⟨g, k * 4 + 2, none⟩ (.slice s.A s.data.length s.cap)).setCell ⟨g, k * 4 + 3, none⟩ (.int .u64 (s.size : Int))) base (.slice t.A t.data.length t.cap) t.data := fun t ht => ht.keep fun x hgb => by
    obtain ⟨_, cur, hc⟩ := ht.block hgb
    refine hkeep x ?_
    rintro rfl
    obtain ⟨_, cur2, hc2⟩ := h.row.block rfl
    rw [hc] at hc2
    cases hc2
  refine ⟨?_, fun t ht => ?_, fun t ht => ?_⟩
  · unfold OwnS; rw [List.length_set]; exact h4
  · rcases List.mem_or_eq_of_mem_set ht with ht | rfl
    · exact keepB t (h.bytes t ht)
    · exact keepB t hsb
  · rcases List.mem_or_eq_of_mem_set ht with ht | rfl
    · exact h.small t ht
    · exact hss
end Go.Proofs
