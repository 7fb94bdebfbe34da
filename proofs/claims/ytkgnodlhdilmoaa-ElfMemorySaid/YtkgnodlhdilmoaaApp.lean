/- Slices that are read, and appending to a slice of the call's own: for any program. -/
import Derived.WalkKit
import Derived.Maps.AppendAt
import Derived.Deep.AppendLies
namespace Go.Pat
open Go Go.RowKit

/-- the cells xs lie from A on, in blocks below B (where there are none, A may be anything). -/
def Cs (B : Nat) (w : World) (A : Option Addr) (xs : List Value) : Prop :=
  ∀ i, (h : i < xs.length) → ∃ b o, A = some ⟨b, o, none⟩ ∧ b < B ∧ w.cell? ⟨b, o + i, none⟩ = some xs[i]

section
variable {B : Nat} {w w' : World} {A : Option Addr} {xs : List Value}
theorem Cs.nil : Cs B w A [] := fun i h => absurd h (by simp)
theorem Cs.form (h : Cs B w A xs) (hx : xs ≠ []) : ∃ b o, A = some ⟨b, o, none⟩ ∧ b < B := by
  obtain ⟨b, o, e, hb, _⟩ := h 0 (List.length_pos_iff.2 hx)
  exact ⟨b, o, e, hb⟩
theorem Cs.keep (h : Cs B w A xs) (hk : ∀ p : Addr, p.block < B → w'.cell? p = w.cell? p) : Cs B w' A xs := by
  intro i hi
  obtain ⟨b, o, e, hb, hc⟩ := h i hi
  exact ⟨b, o, e, hb, (hk _ hb).trans hc⟩
theorem Cs.below (h : Cs B w A xs) (hb : Below B w w') : Cs B w' A xs := h.keep fun _ hp => hb.cell hp
theorem Cs.more {B' : Nat} (h : Cs B w A xs) (hB : B ≤ B') : Cs B' w A xs := by
  intro i hi
  obtain ⟨b, o, e, hb, hc⟩ := h i hi
  exact ⟨b, o, e, by omega, hc⟩
theorem Cs.cell {b o : Nat} (h : Cs B w (some ⟨b, o, none⟩) xs) (i : Nat) (hi : i < xs.length) : w.cell? ⟨b, o + i, none⟩ = some xs[i] := by
  obtain ⟨b', o', e, _, hc⟩ := h i hi
  simp only [Option.some.injEq, Addr.mk.injEq] at e
  obtain ⟨rfl, rfl, _⟩ := e
  exact hc
theorem Cs.news (h : Cs B w A xs) {ad : Addr} (hA : A = some ad) : ∀ j u, xs[j]? = some u → w.cell? (ad.add j) = some u := by
  intro j u hu
  obtain ⟨hj, rfl⟩ := List.getElem?_eq_some_iff.1 hu
  obtain ⟨b, o, e, _, hc⟩ := h j hj
  rw [hA] at e
  cases e
  rw [Addr.add_lit]
  exact hc
/-- a part of what is read: from cell k on. -/
theorem Cs.drop (h : Cs B w A xs) (k : Nat) : Cs B w (A.map (·.add k)) (xs.drop k) := by
  intro i hi
  have hi' : k + i < xs.length := by simp at hi; omega
  obtain ⟨b, o, e, hb, hc⟩ := h (k + i) hi'
  refine ⟨b, o + k, by subst e; simp only [Option.map_some, Addr.add_lit], hb, ?_⟩
  rw [Nat.add_assoc, hc, List.getElem_drop]
theorem Cs.take (h : Cs B w A xs) (k : Nat) : Cs B w A (xs.take k) := by
  intro i hi
  have hi' : i < xs.length := by simp at hi; omega
  obtain ⟨b, o, e, hb, hc⟩ := h i hi'
  exact ⟨b, o, e, hb, by rw [hc, List.getElem_take]⟩
theorem Cs.of_own {base : Nat} {e : TypeId} {size n c : Nat} (h : w.ownsRow base e size (.slice A n c) n xs) : Cs w.heap.size w A xs := by
  intro i hi
  rcases h.2 with ⟨hv, hn⟩ | ⟨g, cap, cur, hv, _, hg, _, _, _, ht⟩
  · have := h.1
    rw [hn, Nat.zero_mul] at this
    omega
  · simp only [Value.slice.injEq] at hv
    obtain ⟨hA, _, _⟩ := hv
    refine ⟨g, 0, hA, lt_of_block hg, ?_⟩
    have hi2 : i < n * size := by rw [← h.1]; exact hi
    rw [cell_of_row w g (0 + i) cur _ _ hg]
    have : (cur.toList.take (n * size))[i]? = some xs[i] := by rw [ht]; simp
    rw [List.getElem?_take, if_pos hi2] at this
    simpa using this
end

/-- what the table says of a slice type and its element type. -/
structure ElT (P : Program) (t e : TypeId) (z : Value) (size bytes : Nat) : Prop where
  ht : P.underlying t = some (.slice e)
  hi : (P.info? e).map (fun i => (i.zero, i.size, i.bytes)) = some (some z, size, bytes)
  hz : z.cells.size = size
  hs : 0 < size

theorem run_app {P : Program} (w : World) {t ty e : TypeId} {z : Value} {size bytes : Nat} (hE : ElT P t e z size bytes) (base : Nat)
    (v : Value) (n : Nat) (xs : List Value) (hown : w.ownsRow base e size v n xs)
    (B : Nat) (A : Option Addr) (m c : Nat) (news : List Value) (hl : news.length = m * size) (hr : Cs B w A news) (h1 : ∀ u ∈ news, u.oneCell' = true)
    (h63 : n + m ≤ maxLen) (hbytes : (n + m) * bytes ≤ 140737488355328) (hbase : base ≤ w.heap.size) :
    ∃ v' w', (Builtin.append_ #[t, t] ty #[v, .slice A m c]).run P w = .ok v' w' ∧ w'.ownsRow base e size v' (n + m) (xs ++ news) ∧ w.grownBy w' v.ownBlock ∧
      (v' = .slice none 0 0 ↔ v = .slice none 0 0 ∧ m = 0) ∧ (v'.ownBlock = v.ownBlock ∨ v'.ownBlock = some w.heap.size) := by
  obtain ⟨i, hi, hz0, hz1, hz2⟩ := info_parts hE.hi
  cases A with
  | some ad => exact run_append_own_at (P := P) w base t ty e i z size bytes hE.ht hi hz0 hz1 hz2 hE.hz hE.hs v n xs hown ad m c news hl (hr.news rfl) h1 h63 hbytes hbase
  | none =>
    have hn : news = [] := by
      cases news with
      | nil => rfl
      | cons a l => obtain ⟨_, _, e, _⟩ := hr 0 (by simp); cases e
    subst hn
    have hm : m = 0 := by
      have := hE.hs
      rcases Nat.eq_zero_or_pos m with h | h
      · exact h
      · have := Nat.mul_pos h this
        simp at hl
        omega
    subst hm
    refine ⟨v, w, ?_, by simpa using hown, ⟨rfl, rfl, rfl, Nat.le_refl _, fun _ _ _ => rfl⟩, by simp, .inl rfl⟩
    rcases hown.2 with ⟨rfl, rfl⟩ | ⟨g, cap, cur, rfl, _, _, hnc, _⟩
    · simp [Builtin.append_, run_underlying hE.ht, sizeOf, typeInfo, hi, Builtin.lenOf, Builtin.firstCells]
    · simp [Builtin.append_, run_underlying hE.ht, sizeOf, typeInfo, hi, Builtin.lenOf, Builtin.firstCells, hnc, storeCells]

theorem wpList_app {P : Program} (w : World) {ops : Array Oper} {rest : List Oper} {o : Oper} {a : Act} {Q : Exit → Act → World → Prop} (hgd : o.guard = none) (s x : Operand) (t : TypeId)
    (ho : o.op = .call { callee := .builtin .append, args := #[s, x], argTypes := #[t, t] })
    {e : TypeId} {z : Value} {size bytes : Nat} (hE : ElT P t e z size bytes) (base : Nat)
    (v : Value) (n : Nat) (xs : List Value) (hs : a.eval s = v) (hown : w.ownsRow base e size v n xs)
    (B : Nat) (A : Option Addr) (m c : Nat) (news : List Value) (hx : a.eval x = .slice A m c) (hl : news.length = m * size) (hr : Cs B w A news) (h1 : ∀ u ∈ news, u.oneCell' = true)
    (h63 : n + m ≤ maxLen) (hbytes : (n + m) * bytes ≤ 140737488355328) (hbase : base ≤ w.heap.size)
    (h : ∀ v' w', w'.ownsRow base e size v' (n + m) (xs ++ news) → w.grownBy w' v.ownBlock → (v' = .slice none 0 0 ↔ v = .slice none 0 0 ∧ m = 0) → (v'.ownBlock = v.ownBlock ∨ v'.ownBlock = some w.heap.size) → wpList P ops Q rest (a.put o.dst v') w') :
    wpList P ops Q (o :: rest) a w := by
  refine wpList_plain hgd fun K hK => ?_
  obtain ⟨v', w', hr, h2, h3, h4, h5⟩ := run_app (P := P) w (ty := o.type) hE base v n xs hown B A m c news hl hr h1 h63 hbytes hbase
  unfold Oper.wp execOp
  simp only [ho, resolve, invoke, builtin, Sem.run_bind, Sem.run_pure, Result.andThen_ok, List.map_toArray, List.map_cons, List.map_nil, hs, hx, hr]
  exact hK _ _ (h v' w' h2 h3 h4 h5)

theorem own_below {base : Nat} {e : TypeId} {size n : Nat} {v : Value} {w w1 W : World} {xs : List Value} (hown : w.ownsRow base e size v n xs) (hB : Below base W w) (hg : w.grownBy w1 v.ownBlock) (hbase : base ≤ w.heap.size) : Below base W w1 :=
  hB.grown hg hbase fun k hk => (hown.lt k hk).1

/-- bytes as cells. -/
def bval (c : UInt8) : Value := .int .u8 (c.toNat : Int)
def bcells (l : List UInt8) : List Value := l.map bval
theorem bcells_length (l : List UInt8) : (bcells l).length = l.length := by simp [bcells]
theorem bcells_one (l : List UInt8) : ∀ u ∈ bcells l, u.oneCell' = true := by
  intro u hu
  obtain ⟨_, _, rfl⟩ := List.mem_map.1 hu
  rfl
theorem bcells_append (l m : List UInt8) : bcells (l ++ m) = bcells l ++ bcells m := by simp [bcells]
/-- bytes are read from A on. -/
abbrev Bs (B : Nat) (w : World) (A : Option Addr) (l : List UInt8) : Prop := Cs B w A (bcells l)
theorem Bs.at_ {B : Nat} {w : World} {A : Option Addr} {l : List UInt8} (h : Bs B w A l) (i : Nat) (hi : i < l.length) : ∃ b o, A = some ⟨b, o, none⟩ ∧ b < B ∧ w.cell? ⟨b, o + i, none⟩ = some (.int .u8 (l[i].toNat : Int)) := by
  obtain ⟨b, o, e, hb, hc⟩ := h i (by simpa [bcells] using hi)
  exact ⟨b, o, e, hb, by rw [hc]; simp [bcells, bval]⟩
end Go.Pat
