/- Where segments' bytes stand: elf.places, patinaref04.places, counts. -/
import Derived.Test.YtlhenglopnipaaaGreatDoorBufs
import Derived.Test.YtlhenglopnipaaaGreatDoorElfA
import Derived.Deep.RegionLaw
import Derived.Deep.RegionHeld3
import Derived.Deep.DrawnRows
import Derived.BigQuiet
namespace Go.Pat
open Go Go.RowKit

def kcells (k : IntKind) (l : List Nat) : List Value := l.map fun (n : Nat) => .int k (n : Int)
theorem kcells_length (k : IntKind) (l : List Nat) : (kcells k l).length = l.length := by simp [kcells]
def endT (ls : List Nat) : Nat → Nat
  | 0 => 64 + 56 * ls.length
  | k + 1 => match ls[k]? with | none => endT ls k | some m => if m = 0 then endT ls k else roundN (endT ls k) + m
end Go.Pat
namespace Go.Proofs
open Go Go.RowKit Go.Pat

/-- a slice of numbers of the call's own. -/
def OwnK (e : TypeId) (k : IntKind) (w : World) (base : Nat) (v : Value) (l : List Nat) : Prop := w.ownsRow base e 1 v l.length (kcells k l)
section
variable {e t : TypeId} {k : IntKind}
theorem OwnK.form {w : World} {base : Nat} {v : Value} {l : List Nat} (h : OwnK e k w base v l) : ∃ A c, v = .slice A l.length c ∧ Cs w.heap.size w A (kcells k l) := by
  rcases h.2 with ⟨rfl, h0⟩ | ⟨g, cap, cur, rfl, _, hh, hn, hm, hc, ht⟩
  · exact ⟨none, 0, by rw [h0], fun i hi => by rw [kcells_length] at hi; omega⟩
  · exact ⟨_, cap, rfl, Cs.of_own (c := cap) h⟩
theorem OwnK.keep {w w' : World} {base : Nat} {v : Value} {l : List Nat} (h : OwnK e k w base v l) (hb : ∀ g, v.ownBlock = some g → w'.heap[g]? = w.heap[g]?) : OwnK e k w' base v l := by
  refine ⟨h.1, ?_⟩
  rcases h.2 with h0 | ⟨g, cap, cur, rfl, hg, hh, r⟩
  · exact .inl h0
  · exact .inr ⟨g, cap, cur, rfl, hg, (hb g rfl).trans hh, r⟩
theorem OwnK.below {w w' : World} {base : Nat} {v : Value} {l : List Nat} (h : OwnK e k w base v l) (hb : Below w.heap.size w w') : OwnK e k w' base v l := h.keep fun g hg => hb.block g (h.lt g hg).2
theorem OwnK.nil (w : World) (base : Nat) : OwnK e k w base (.slice none 0 0) [] := ⟨rfl, .inl ⟨rfl, rfl⟩⟩
theorem OwnK.alloc {w : World} {base : Nat} {v : Value} {l : List Nat} (h : OwnK e k w base v l) (o : Obj) : OwnK e k (w.alloc o) base v l := h.below ((Below.refl _ _).alloc (Nat.le_refl _) _)
theorem OwnK.base {w : World} {base b2 : Nat} {v : Value} {l : List Nat} (h : OwnK e k w base v l) (hb : b2 ≤ base) : OwnK e k w b2 v l := by
  refine ⟨h.1, ?_⟩
  rcases h.2 with h0 | ⟨g, cap, cur, hv, hg, r⟩
  · exact .inl h0
  · exact .inr ⟨g, cap, cur, hv, by omega, r⟩

end

end Go.Proofs

/- Where segments' bytes stand: patinaref04.counts, places. -/
namespace Go.Proofs
open Go Go.RowKit Go.Pat

end Go.Proofs

/- patinaref04.head, row. -/
namespace Go.Pat
open Go Go.RowKit
def head16 : List UInt8 := [127, 69, 76, 70, 2, 1, 1, 0, 0, 0, 0, 0, 0, 0, 0, 0]
def headB (en n : Nat) : List UInt8 := head16 ++ le 2 2 ++ le 2 243 ++ le 4 1 ++ le 8 en ++ le 8 64 ++ le 8 0 ++ le 4 0 ++ le 2 64 ++ le 2 56 ++ le 2 n ++ le 6 0
def rowB (addr perm len size at_ : Nat) : List UInt8 := le 4 1 ++ le 4 perm ++ le 8 at_ ++ le 8 addr ++ le 8 addr ++ le 8 len ++ le 8 size ++ le 8 4096
end Go.Pat
namespace Go.Proofs
open Go Go.RowKit Go.Pat

end Go.Proofs

/- An image's file, as bytes. -/
namespace Go.Pat
open Go Go.RowKit

def plAt (ls : List Nat) (k : Nat) : Nat := match ls[k]? with | none => 0 | some m => if m = 0 then 0 else roundN (endT ls k)
def dlens (ss : List Sgd) : List Nat := ss.map fun s => s.data.length
def fileT (en : Nat) (ss : List Sgd) : Nat → List UInt8
  | 0 => splice (List.replicate (endT (Go.Pat.dlens ss) ss.length) 0) 0 (headB en ss.length)
  | k + 1 => match ss[k]? with
    | none => fileT en ss k
    | some s => splice (splice (fileT en ss k) (64 + 56 * k) (rowB s.addr s.perm.toNat s.data.length s.size (plAt (Go.Pat.dlens ss) k))) (plAt (Go.Pat.dlens ss) k) s.data
def fileB (en : Nat) (ss : List Sgd) : List UInt8 := fileT en ss ss.length
end Go.Pat
namespace Go.Proofs
open Go Go.RowKit Go.Pat

theorem Tryz_sizeU8 : (Tryz.prog.info? 5).map (·.size) = some 1 := by kernel_rfl
theorem made_bytes (n : Nat) : madeCells #[.int .u8 0] n = (bcells (List.replicate n 0)).toArray := by
  apply Array.ext
  · rw [size_madeCells]; simp [bcells]
  · intro i h1 h2
    simp [madeCells, bcells, bval, Nat.mod_one]
end Go.Proofs

/- elf.Write, elf.Size; patinaref04.Write, Size. -/
namespace Go.Pat
open Go Go.RowKit

structure CheckOK (en : Nat) (ss : List Sgd) : Prop where
  some_ : 1 ≤ ss.length
  few : ss.length ≤ 8
  ok : okT ss ss.length = true
  pages : pagT ss ss.length ≤ 4096
  entry : entT en ss ss.length = true
  four : en % 4 = 0
theorem check_ok {en : Nat} {ss : List Sgd} (h : checkE en ss = 0) : CheckOK en ss := by
  unfold checkE at h
  split at h
  · cases h
  · rename_i hn
    simp only [not_or, Nat.not_lt, Bool.not_eq_false] at hn
    obtain ⟨h1, h2, h3, h4, h5, h6⟩ := hn
    exact ⟨h1, h2, h3, h4, h5, by omega⟩
theorem check_no {en : Nat} {ss : List Sgd} (h : checkE en ss ≠ 0) : checkE en ss = 40 := by
  unfold checkE at h ⊢
  split
  · rfl
  · rename_i hn; rw [if_neg hn] at h; exact absurd rfl h
/-- what both Write tell. -/
def WroteP (w : World) (en : Nat) (ss : List Sgd) (e : Ending) (w' : World) : Prop :=
  (checkE en ss = 0 ∧ ∃ g n, e = .returned (.tuple #[.slice (some ⟨g, 0, none⟩) n n, .int .i64 0]) ∧ Buf w' g (fileB en ss) ∧ w.heap.size ≤ g ∧ n = (fileB en ss).length ∧ n ≤ 140737488351232 ∧ Below w.heap.size w w') ∨
  (checkE en ss = 40 ∧ e = .returned (.tuple #[.slice none 0 0, .int .i64 40]) ∧ Below w.heap.size w w')
end Go.Pat
namespace Go.Proofs
open Go Go.RowKit Go.Pat

end Go.Proofs

/- patinaref04.Write makes the file that elf.Write makes. -/
namespace Go.Proofs
open Go Go.RowKit Go.Pat

end Go.Proofs

/- A slice of segments of the call's own. -/
namespace Go.Pat
open Go Go.RowKit

def Sg.cells (s : Sg) : List Value := [.int .u64 (s.addr : Int), .int .i64 s.perm, .slice s.A s.data.length s.cap, .int .u64 (s.size : Int)]
def scells : List Sg → List Value
  | [] => []
  | s :: r => s.cells ++ scells r
theorem scells_length (ss : List Sg) : (scells ss).length = ss.length * 4 := by
  induction ss with
  | nil => rfl
  | cons s r ih => simp [scells, Sg.cells, ih]; omega
theorem scells_append (a b : List Sg) : scells (a ++ b) = scells a ++ scells b := by
  induction a with
  | nil => rfl
  | cons s r ih => simp [scells, ih]
theorem scells_one (ss : List Sg) : ∀ u ∈ scells ss, u.oneCell' = true := by
  induction ss with
  | nil => intro u hu; cases hu
  | cons s r ih =>
    intro u hu
    simp only [scells, Sg.cells, List.cons_append, List.nil_append, List.mem_cons] at hu
    rcases hu with rfl | rfl | rfl | rfl | h
    · rfl
    · rfl
    · rfl
    · rfl
    · exact ih u h
theorem scells_get (ss : List Sg) (i : Nat) (hi : i < ss.length) (j : Nat) (hj : j < 4) : (scells ss)[i * 4 + j]? = (ss[i].cells)[j]? := by
  induction ss generalizing i with
  | nil => simp at hi
  | cons s r ih =>
    cases i with
    | zero => simp only [scells, Nat.zero_mul, Nat.zero_add, List.getElem_cons_zero]; rw [List.getElem?_append_left (by simp [Sg.cells]; omega)]
    | succ i =>
      rw [show (i + 1) * 4 + j = 4 + (i * 4 + j) by omega]
      simp only [scells, List.getElem_cons_succ]
      rw [List.getElem?_append_right (by simp [Sg.cells])]
      simp only [Sg.cells, List.length_cons, List.length_nil]
      rw [show 4 + (i * 4 + j) - (0 + 1 + 1 + 1 + 1) = i * 4 + j by omega]
      exact ih i (by simpa using hi)
end Go.Pat
namespace Go.Proofs
open Go Go.RowKit Go.Pat

theorem Tryz_elSeg : ElT Tryz.prog 57 66 (.agg #[.int .u64 0, .int .i64 0, .slice none 0 0, .int .u64 0]) 4 48 := ⟨Tryz.underlying57, by kernel_rfl, rfl, by decide⟩
def OwnS (w : World) (base : Nat) (v : Value) (ss : List Sg) : Prop := w.ownsRow base 66 4 v ss.length (scells ss)
theorem OwnS.form {w : World} {base : Nat} {v : Value} {ss : List Sg} (h : OwnS w base v ss) : ∃ A c, v = .slice A ss.length c ∧ Cs w.heap.size w A (scells ss) := by
  rcases h.2 with ⟨rfl, h0⟩ | ⟨g, cap, cur, rfl, _, hh, hn, hm, hc, ht⟩
  · exact ⟨none, 0, by rw [h0], fun i hi => by rw [scells_length] at hi; omega⟩
  · exact ⟨_, cap, rfl, Cs.of_own (c := cap) h⟩
theorem OwnS.keep {w w' : World} {base : Nat} {v : Value} {ss : List Sg} (h : OwnS w base v ss) (hb : ∀ g, v.ownBlock = some g → w'.heap[g]? = w.heap[g]?) : OwnS w' base v ss := by
  refine ⟨h.1, ?_⟩
  rcases h.2 with h0 | ⟨g, cap, cur, rfl, hg, hh, r⟩
  · exact .inl h0
  · exact .inr ⟨g, cap, cur, rfl, hg, (hb g rfl).trans hh, r⟩
theorem OwnS.below {w w' : World} {base : Nat} {v : Value} {ss : List Sg} (h : OwnS w base v ss) (hb : Below w.heap.size w w') : OwnS w' base v ss := h.keep fun g hg => hb.block g (h.lt g hg).2
theorem OwnS.nil (w : World) (base : Nat) : OwnS w base (.slice none 0 0) [] := ⟨rfl, .inl ⟨rfl, rfl⟩⟩
theorem OwnS.block {w : World} {base : Nat} {v : Value} {ss : List Sg} (h : OwnS w base v ss) {g : Nat} (hg : v.ownBlock = some g) : base ≤ g ∧ ∃ cur, w.heap[g]? = some (.cells cur 66 (0, 0)) := by
  rcases h.2 with ⟨rfl, _⟩ | ⟨g2, cap, cur, rfl, h1, hh, _⟩
  · cases hg
  · obtain rfl : g2 = g := by simpa [Value.ownBlock] using hg
    exact ⟨h1, cur, hh⟩
/-- segments of the call's own, their bytes too. -/
structure OwnSs (w : World) (base : Nat) (v : Value) (ss : List Sg) : Prop where
  row : OwnS w base v ss
  bytes : ∀ s ∈ ss, OwnB w base (.slice s.A s.data.length s.cap) s.data
  small : ∀ s ∈ ss, s.addr < 18446744073709551616 ∧ s.size < 18446744073709551616 ∧ s.data.length ≤ 140737488351232
theorem OwnSs.below {w w' : World} {base : Nat} {v : Value} {ss : List Sg} (h : OwnSs w base v ss) (hb : Below w.heap.size w w') : OwnSs w' base v ss :=
  ⟨h.row.below hb, fun s hs => (h.bytes s hs).below hb, h.small⟩
theorem OwnSs.nil (w : World) (base : Nat) : OwnSs w base (.slice none 0 0) [] := ⟨.nil w base, by simp, by simp⟩
/-- a store outside of them. -/
theorem OwnSs.put {w w' : World} {base : Nat} {v : Value} {ss : List Sg} (h : OwnSs w base v ss) {r : Nat} {cs : Array Value} {t : TypeId} {fr : Nat × Nat} (hr : w.heap[r]? = some (.cells cs t fr)) (h1 : t ≠ 66) (h2 : t ≠ 5)
    (hb : KeptBut (fun b => b = r) w w') : OwnSs w' base v ss := by
  refine ⟨h.row.keep fun g hg => ?_, fun s hs => (h.bytes s hs).keep fun g hg => ?_, h.small⟩
  · obtain ⟨_, cur, hc⟩ := h.row.block hg
    refine hb.block g (lt_of_block hc) ?_
    rintro rfl
    rw [hr] at hc
    cases hc
    exact h1 rfl
  · obtain ⟨_, cur, hc⟩ := (h.bytes s hs).block hg
    refine hb.block g (lt_of_block hc) ?_
    rintro rfl
    rw [hr] at hc
    cases hc
    exact h2 rfl
theorem OwnSs.sgs {w : World} {base : Nat} {v : Value} {ss : List Sg} (h : OwnSs w base v ss) (hf : ss.length ≤ 140737488351232) : ∃ A c, v = .slice A ss.length c ∧ SgsAt w.heap.size w A ss := by
  obtain ⟨A, c, rfl, hc⟩ := h.row.form
  refine ⟨A, c, rfl, fun i hi => ?_, fun s hs => ?_, h.small, hf, fun s hs => ?_⟩
  · have hlen := scells_length ss
    have gt : ∀ j, j < 4 → ∃ b o, A = some ⟨b, o, none⟩ ∧ b < w.heap.size ∧ w.cell? ⟨b, o + (i * 4 + j), none⟩ = (ss[i].cells)[j]? := fun j hj => by
      obtain ⟨b, o, e, hb, hx⟩ := hc (i * 4 + j) (by omega)
      refine ⟨b, o, e, hb, ?_⟩
      rw [hx, ← scells_get ss i hi j hj, List.getElem?_eq_getElem (by omega)]
    obtain ⟨b, o, rfl, hb, g0⟩ := gt 0 (by omega)
    obtain ⟨b1, o1, e1, _, g1⟩ := gt 1 (by omega)
    obtain ⟨b2, o2, e2, _, g2⟩ := gt 2 (by omega)
    obtain ⟨b3, o3, e3, _, g3⟩ := gt 3 (by omega)
    cases e1
    cases e2
    cases e3
    exact ⟨b, o, rfl, hb, g0, g1, g2, g3⟩
  · obtain ⟨A2, c2, e, hb⟩ := (h.bytes s hs).form
    cases e
    exact hb
  · rcases (h.bytes s hs).2 with ⟨e, h0⟩ | ⟨g, cap, cur, e, _, hh, hn, _⟩
    · omega
    · simp only [Value.slice.injEq] at e
      omega

end Go.Proofs

/- elf.says: what the bytes of a file say. -/
namespace Go.Pat
open Go Go.RowKit

def cntK (l : List UInt8) (k : Nat) : Nat := num l (64 + 56 * k + 32) 8
def sayS (l : List UInt8) (k : Nat) (d : List UInt8) : Sgd := ⟨num l (64 + 56 * k + 16) 8, (num l (64 + 56 * k + 4) 4 : Nat), d, num l (64 + 56 * k + 40) 8⟩
inductive Said where
  | none
  | some (ss : List Sgd) (e : Nat)
def saysT (l : List UInt8) (n : Nat) : Nat → Said
  | 0 => .some [] (64 + 56 * n)
  | k + 1 => match saysT l n k with
    | .none => .none
    | .some ss e => if cntK l k = 0 then .some (ss ++ [sayS l k []]) e else if l.length < roundN e ∨ l.length - roundN e < cntK l k then .none
      else .some (ss ++ [sayS l k ((l.drop (roundN e)).take (cntK l k))]) (roundN e + cntK l k)
end Go.Pat
namespace Go.Proofs
open Go Go.RowKit Go.Pat

theorem OwnS.base {w : World} {base b2 : Nat} {v : Value} {ss : List Sg} (h : OwnS w base v ss) (hb : b2 ≤ base) : OwnS w b2 v ss := by
  refine ⟨h.1, ?_⟩
  rcases h.2 with h0 | ⟨g, cap, cur, hv, hg, r⟩
  · exact .inl h0
  · exact .inr ⟨g, cap, cur, hv, by omega, r⟩
end Go.Proofs

/- append as one step of a region that draws; segments that are stored anew. -/
namespace Go.Pat
open Go Go.RowKit
end Go.Pat
namespace Go.Proofs
open Go Go.RowKit Go.Pat

theorem OwnSs.grow {w w' : World} {base : Nat} {v v' : Value} {ss : List Sg} {s : Sg} (hown : OwnSs w base v ss) (hsb : OwnB w base (.slice s.A s.data.length s.cap) s.data)
    (hss : s.addr < 18446744073709551616 ∧ s.size < 18446744073709551616 ∧ s.data.length ≤ 140737488351232) (h1 : w'.ownsRow base 66 4 v' (ss.length + 1) (scells ss ++ scells [s]))
    (hk : ∀ g, g < w.heap.size → v.ownBlock ≠ some g → w'.heap[g]? = w.heap[g]?) : OwnSs w' base v' (ss ++ [s]) := by
  refine ⟨?_, ?_, ?_⟩
  · unfold OwnS
    rw [List.length_append, scells_append]
    exact h1
  · have keepB : ∀ t : Sg, OwnB w base (.slice t.A t.data.length t.cap) t.data → OwnB w' base (.slice t.A t.data.length t.cap) t.data := fun t ht => ht.keep fun g hgb => by
      obtain ⟨_, cur, hc⟩ := ht.block hgb
      refine hk g (lt_of_block hc) (fun e => ?_)
      obtain ⟨_, cur2, hc2⟩ := hown.row.block e
      rw [hc] at hc2
      cases hc2
    intro t ht
    rcases List.mem_append.1 ht with ht | ht
    · exact keepB t (hown.bytes t ht)
    · obtain rfl := List.mem_singleton.1 ht
      exact keepB t hsb
  · intro t ht
    rcases List.mem_append.1 ht with ht | ht
    · exact hown.small t ht
    · obtain rfl := List.mem_singleton.1 ht
      exact hss
theorem step_appS {ops : Array Oper} {o : Oper} {a : Act} {w : World} {K : Act → World → Prop} {Q : Exit → Act → World → Prop} {E : Prop} (hgd : o.guard = none) (x y : Operand)
    (ho : o.op = .call { callee := .builtin .append, args := #[x, y], argTypes := #[57, 57] }) (base : Nat) (v : Value) (ss : List Sg) (hx : a.eval x = v) (hown : OwnSs w base v ss)
    (b c : Nat) (s : Sg) (hy : a.eval y = .slice (some ⟨b, 0, none⟩) 1 c) (hb : w.heap[b]? = some (.cells s.cells.toArray 66 (0, 0))) (hsb : OwnB w base (.slice s.A s.data.length s.cap) s.data)
    (hss : s.addr < 18446744073709551616 ∧ s.size < 18446744073709551616 ∧ s.data.length ≤ 140737488351232) (hlen : ss.length + 1 ≤ 1000) (hbase : base ≤ w.heap.size)
    (h : ∀ v' w', OwnSs w' base v' (ss ++ [s]) → (∀ W, Below base W w → Below base W w') → (∀ g, g < w.heap.size → v.ownBlock ≠ some g → w'.heap[g]? = w.heap[g]?) → K (a.put o.dst v') w') :
    if Region.wanted o (yielded ops a.tmps) = true then Oper.wp Tryz.prog o a w K Q else E := by
  have hcs : Cs w.heap.size w (some ⟨b, 0, none⟩) (scells [s]) := fun i hi => by
    have hi4 : i < 4 := by simpa [scells, Sg.cells] using hi
    refine ⟨b, 0, rfl, lt_of_block hb, ?_⟩
    simp only [World.cell?, hb, Nat.zero_add]
    simp [scells]
  refine step_app hgd x y 57 ho Tryz_elSeg base v ss.length (scells ss) hx hown.row _ (some ⟨b, 0, none⟩) 1 c (scells [s]) hy (by simp [scells, Sg.cells]) hcs (scells_one [s]) (by simp only [maxLen]; omega) (by omega) hbase ?_
  intro v' w' h1 hg hnil hat
  have hk : ∀ g, g < w.heap.size → v.ownBlock ≠ some g → w'.heap[g]? = w.heap[g]? := fun g hg1 hg2 => hg.block g hg1 (fun e => hg2 e.symm)
  exact h v' w' (hown.grow hsb hss h1 hk) (fun W hW => own_below hown.row hW hg hbase) hk

/-- blocks of segments and of bytes are kept. -/
theorem OwnSs.keepT {w w' : World} {base : Nat} {v : Value} {ss : List Sg} (h : OwnSs w base v ss) (hk : ∀ (g : Nat) (cur : Array Value) (t : TypeId), w.heap[g]? = some (Obj.cells cur t (0, 0)) → (t = 66 ∨ t = 5) → w'.heap[g]? = w.heap[g]?) : OwnSs w' base v ss :=
  ⟨h.row.keep fun g hg => by obtain ⟨_, cur, hc⟩ := h.row.block hg; exact hk g cur _ hc (.inl rfl),
   fun s hs => (h.bytes s hs).keep fun g hg => by obtain ⟨_, cur, hc⟩ := (h.bytes s hs).block hg; exact hk g cur _ hc (.inr rfl), h.small⟩
theorem OwnK.block {e : TypeId} {k : IntKind} {w : World} {base : Nat} {v : Value} {l : List Nat} (h : OwnK e k w base v l) {g : Nat} (hg : v.ownBlock = some g) : base ≤ g ∧ ∃ cur, w.heap[g]? = some (.cells cur e (0, 0)) := by
  rcases h.2 with ⟨rfl, _⟩ | ⟨g2, cap, cur, rfl, h1, hh, _⟩
  · cases hg
  · obtain rfl : g2 = g := by simpa [Value.ownBlock] using hg
    exact ⟨h1, cur, hh⟩
end Go.Proofs

/- elf.Read: the image of a file, or the first place that is wrong. -/
namespace Go.Pat
open Go Go.RowKit

def diffTo (b w : List UInt8) : Nat → Option Nat
  | 0 => none
  | k + 1 => match diffTo b w k with
    | some j => some j
    | none => if b[k]? = w[k]? then none else some k
inductive ReadR where
  | bad (at_ : Nat)
  | good (en : Nat) (ss : List Sgd)
def readE (l : List UInt8) : ReadR :=
  if l.length < 64 then .bad l.length
  else if num l 56 2 < 1 ∨ 8 < num l 56 2 then .bad 56
  else if l.length < 64 + 56 * num l 56 2 then .bad l.length
  else match saysT l (num l 56 2) (num l 56 2) with
    | .none => .bad l.length
    | .some ss _ =>
      if checkE (num l 24 8) ss ≠ 0 then .bad 64
      else match diffTo l (fileB (num l 24 8) ss) (min l.length (fileB (num l 24 8) ss).length) with
        | some k => .bad k
        | none => if l.length ≠ (fileB (num l 24 8) ss).length then .bad (min l.length (fileB (num l 24 8) ss).length) else .good (num l 24 8) ss
end Go.Pat
namespace Go.Proofs
open Go Go.RowKit Go.Pat

/-- what Read tells. -/
def ReadP (w : World) (l : List UInt8) (e : Ending) (w' : World) : Prop :=
  (∃ at_ : Nat, readE l = .bad at_ ∧ e = .returned (.tuple #[.agg #[.int .u64 0, .slice none 0 0], .int .i64 40, .int .i64 at_]) ∧ Below w.heap.size w w') ∨
  (∃ en v gs, readE l = .good en (gs.map Sg.d) ∧ e = .returned (.tuple #[.agg #[.int .u64 (en : Nat), v], .int .i64 0, .int .i64 0]) ∧ OwnSs w' w.heap.size v gs ∧ gs.length ≤ 8 ∧ Below w.heap.size w w')

end Go.Proofs

/- The plain laws of an image's file: what is written is read, and nothing else. -/
namespace Go.Pat
open Go Go.RowKit

/- the other order of reading a table. -/
def cnts (l : List UInt8) (n : Nat) : List Nat := (List.range n).map (cntK l)
/- numbers at their places. -/
/- the file's bytes. -/
structure GoodRead (l : List UInt8) (en : Nat) (ss : List Sgd) : Prop where
  check : checkE en ss = 0
  file : fileB en ss = l
  en : en = num l 24 8
  head : 64 ≤ l.length
  some_ : 1 ≤ num l 56 2
  few : num l 56 2 ≤ 8
  rows : 64 + 56 * num l 56 2 ≤ l.length
  len : l.length = endT (cnts l (num l 56 2)) (num l 56 2)
end Go.Pat
