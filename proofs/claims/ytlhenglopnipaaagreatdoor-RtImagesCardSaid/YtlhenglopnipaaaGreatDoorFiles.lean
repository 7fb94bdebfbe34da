/- Where segments' bytes stand: elf.places, patinaref04.places, counts. -/
import Derived.Test.YtlhenglopnipaaaGreatDoorBufs
import Derived.Test.YtlhenglopnipaaaGreatDoorElfA
import Derived.Deep.RegionLaw
import Derived.Deep.RegionHeld3
import Derived.Deep.DrawnRows
import Derived.BigQuiet
namespace Go.Pat
open Go Go.RowKit

def kcells (k : IntKind) (l : List Nat) : List Value := l.map fun (n : Nat) => .int k (n : Int)
theorem kcells_length (k : IntKind) (l : List Nat) : (kcells k l).length = l.length := by simp [kcells]
theorem kcells_one (k : IntKind) (l : List Nat) : ∀ u ∈ kcells k l, u.oneCell' = true := by
  intro u hu
  obtain ⟨_, _, rfl⟩ := List.mem_map.1 hu
  rfl
def endT (ls : List Nat) : Nat → Nat
  | 0 => 64 + 56 * ls.length
  | k + 1 => match ls[k]? with | none => endT ls k | some m => if m = 0 then endT ls k else roundN (endT ls k) + m
def plaT (ls : List Nat) : Nat → List Nat
  | 0 => []
  | k + 1 => plaT ls k ++ [match ls[k]? with | none => 0 | some m => if m = 0 then 0 else roundN (endT ls k)]
theorem plaT_length (ls : List Nat) (k : Nat) : (plaT ls k).length = k := by
  induction k with
  | zero => rfl
  | succ k ih => simp [plaT, ih]
theorem endT_leM {ls : List Nat} (M : Nat) (hM : 4096 ≤ M) (hl : ∀ m ∈ ls, m + 4096 ≤ M) (hn : ls.length ≤ 8) (k : Nat) : endT ls k ≤ 512 + k * M := by
  induction k with
  | zero => simp only [endT]; omega
  | succ k ih =>
    rw [endT, Nat.succ_mul]
    cases hc : ls[k]? with
    | none => simp only; omega
    | some m =>
      have := hl m (List.mem_of_getElem? hc)
      simp only
      split
      · omega
      · simp only [roundN]; omega
theorem endT_le {ls : List Nat} (hl : ∀ m ∈ ls, m ≤ 140737488351232) (hn : ls.length ≤ 8) (k : Nat) (hk : k ≤ 8) : endT ls k ≤ 1125899906843136 := by
  have h1 := endT_leM (ls := ls) 140737488355328 (by decide) (fun m hm => Nat.add_le_add_right (hl m hm) 4096) hn k
  have h2 : k * 140737488355328 ≤ 8 * 140737488355328 := Nat.mul_le_mul_right _ hk
  exact Nat.le_trans h1 (Nat.add_le_add_left h2 512)
end Go.Pat
namespace Go.Proofs
open Go Go.RowKit Go.Pat

theorem Tryz_elI64 : ElT Tryz.prog 43 3 (.int .i64 0) 1 8 := ⟨Tryz.underlying43, by kernel_rfl, rfl, by decide⟩
/-- a slice of numbers of the call's own. -/
def OwnK (e : TypeId) (k : IntKind) (w : World) (base : Nat) (v : Value) (l : List Nat) : Prop := w.ownsRow base e 1 v l.length (kcells k l)
section
variable {e t : TypeId} {k : IntKind}
theorem OwnK.form {w : World} {base : Nat} {v : Value} {l : List Nat} (h : OwnK e k w base v l) : ∃ A c, v = .slice A l.length c ∧ Cs w.heap.size w A (kcells k l) := by
  rcases h.2 with ⟨rfl, h0⟩ | ⟨g, cap, cur, rfl, _, hh, hn, hm, hc, ht⟩
  · exact ⟨none, 0, by rw [h0], fun i hi => by rw [kcells_length] at hi; omega⟩
  · exact ⟨_, cap, rfl, Cs.of_own (c := cap) h⟩
theorem OwnK.keep {w w' : World} {base : Nat} {v : Value} {l : List Nat} (h : OwnK e k w base v l) (hb : ∀ g, v.ownBlock = some g → w'.heap[g]? = w.heap[g]?) : OwnK e k w' base v l := by
  refine ⟨h.1, ?_⟩
  rcases h.2 with h0 | ⟨g, cap, cur, rfl, hg, hh, r⟩
  · exact .inl h0
  · exact .inr ⟨g, cap, cur, rfl, hg, (hb g rfl).trans hh, r⟩
theorem OwnK.below {w w' : World} {base : Nat} {v : Value} {l : List Nat} (h : OwnK e k w base v l) (hb : Below w.heap.size w w') : OwnK e k w' base v l := h.keep fun g hg => hb.block g (h.lt g hg).2
theorem OwnK.nil (w : World) (base : Nat) : OwnK e k w base (.slice none 0 0) [] := ⟨rfl, .inl ⟨rfl, rfl⟩⟩
theorem OwnK.alloc {w : World} {base : Nat} {v : Value} {l : List Nat} (h : OwnK e k w base v l) (o : Obj) : OwnK e k (w.alloc o) base v l := h.below ((Below.refl _ _).alloc (Nat.le_refl _) _)
theorem OwnK.base {w : World} {base b2 : Nat} {v : Value} {l : List Nat} (h : OwnK e k w base v l) (hb : b2 ≤ base) : OwnK e k w b2 v l := by
  refine ⟨h.1, ?_⟩
  rcases h.2 with h0 | ⟨g, cap, cur, hv, hg, r⟩
  · exact .inl h0
  · exact .inr ⟨g, cap, cur, hv, by omega, r⟩

theorem wpList_appK {ops : Array Oper} {rest : List Oper} {o : Oper} {a : Act} {Q : Exit → Act → World → Prop} (hE : ElT Tryz.prog t e (.int k 0) 1 8) (w : World) (hgd : o.guard = none) (s x : Operand)
    (ho : o.op = .call { callee := .builtin .append, args := #[s, x], argTypes := #[t, t] }) (base : Nat) (v : Value) (l : List Nat) (hs : a.eval s = v) (hown : OwnK e k w base v l)
    (B : Nat) (A : Option Addr) (n c : Nat) (m : List Nat) (hx : a.eval x = .slice A n c) (hn : m.length = n) (hr : Cs B w A (kcells k m)) (hlen : (l.length + n) * 8 ≤ 140737488355328) (hbase : base ≤ w.heap.size)
    (h : ∀ v' w', OwnK e k w' base v' (l ++ m) → (∀ W, Below base W w → Below base W w') → (∀ g, g < w.heap.size → v.ownBlock ≠ some g → w'.heap[g]? = w.heap[g]?) → wpList Tryz.prog ops Q rest (a.put o.dst v') w') :
    wpList Tryz.prog ops Q (o :: rest) a w := by
  refine wpList_app w hgd s x t ho hE base v l.length (kcells k l) hs hown B A n c (kcells k m) hx (by rw [kcells_length, hn, Nat.mul_one]) hr (kcells_one k m) (by simp only [maxLen]; omega) hlen hbase ?_
  intro v' w' h1 hg hnil hat
  refine h v' w' ?_ (fun W hW => own_below hown hW hg hbase) (fun g hg1 hg2 => hg.block g hg1 (fun e => hg2 e.symm))
  unfold OwnK
  rw [List.length_append, hn, show kcells k (l ++ m) = kcells k l ++ kcells k m by simp [kcells]]
  exact h1
theorem lit_is (w : World) (x : Int) (c : Nat) (t : TypeId) (g : Nat) (hx : x = (c : Int)) (hg : g = w.heap.size) : Cs (w.alloc (.cells #[.int k x] t)).heap.size (w.alloc (.cells #[.int k x] t)) (some ⟨g, 0, none⟩) (kcells k [c]) := by
  subst hx
  subst hg
  intro i hi
  obtain rfl : i = 0 := by simp [kcells] at hi; omega
  refine ⟨w.heap.size, 0, rfl, by simp, ?_⟩
  unfold World.cell?
  rw [show (w.alloc (.cells #[.int k (c : Int)] t)).heap[w.heap.size]? = some (.cells #[.int k (c : Int)] t) from Array.getElem?_push_size]
  rfl
end

theorem two_cells1 (w : World) (a b : Value) (t : Nat) {w1 : World} (hb : Below (w.heap.size + 1) (w.alloc (.cells #[a, b] t)) w1) :
    w1.cell? ⟨w.heap.size, 0, none⟩ = some a ∧ w1.cell? ⟨w.heap.size, 1, none⟩ = some b := two_cells w a b t (by rw [World.size_alloc]; exact hb)
theorem four_cells1 (w : World) (a b c d : Value) (t : Nat) {w1 : World} (hb : Below (w.heap.size + 1) (w.alloc (.cells #[a, b, c, d] t)) w1) :
    w1.cell? ⟨w.heap.size, 0, none⟩ = some a ∧ w1.cell? ⟨w.heap.size, 1, none⟩ = some b ∧ w1.cell? ⟨w.heap.size, 2, none⟩ = some c ∧ w1.cell? ⟨w.heap.size, 3, none⟩ = some d := four_cells w a b c d t (by rw [World.size_alloc]; exact hb)

end Go.Proofs

/- Where segments' bytes stand: patinaref04.counts, places. -/
namespace Go.Proofs
open Go Go.RowKit Go.Pat

theorem Cs.at_i {B : Nat} {w : World} {A : Option Addr} {k : IntKind} {l : List Nat} (h : Cs B w A (kcells k l)) (i : Nat) (hi : i < l.length) : ∃ b o, A = some ⟨b, o, none⟩ ∧ b < B ∧ w.cell? ⟨b, o + i, none⟩ = some (.int k ((l[i] : Nat) : Int)) := by
  obtain ⟨b, o, e, hb, hc⟩ := h i (by simpa [kcells] using hi)
  exact ⟨b, o, e, hb, by rw [hc]; simp [kcells]⟩

end Go.Proofs

/- patinaref04.head, row. -/
namespace Go.Pat
open Go Go.RowKit
def head16 : List UInt8 := [127, 69, 76, 70, 2, 1, 1, 0, 0, 0, 0, 0, 0, 0, 0, 0]
def headB (en n : Nat) : List UInt8 := head16 ++ le 2 2 ++ le 2 243 ++ le 4 1 ++ le 8 en ++ le 8 64 ++ le 8 0 ++ le 4 0 ++ le 2 64 ++ le 2 56 ++ le 2 n ++ le 6 0
def rowB (addr perm len size at_ : Nat) : List UInt8 := le 4 1 ++ le 4 perm ++ le 8 at_ ++ le 8 addr ++ le 8 addr ++ le 8 len ++ le 8 size ++ le 8 4096
theorem headB_length (en n : Nat) : (headB en n).length = 64 := by simp [headB, head16, le_length]
theorem rowB_length (addr perm len size at_ : Nat) : (rowB addr perm len size at_).length = 56 := by simp [rowB, le_length]
end Go.Pat
namespace Go.Proofs
open Go Go.RowKit Go.Pat

end Go.Proofs

/- An image's file, as bytes. -/
namespace Go.Pat
open Go Go.RowKit

def plAt (ls : List Nat) (k : Nat) : Nat := match ls[k]? with | none => 0 | some m => if m = 0 then 0 else roundN (endT ls k)
theorem plaT_succ (ls : List Nat) (k : Nat) : plaT ls (k + 1) = plaT ls k ++ [plAt ls k] := rfl
theorem plaT_get (ls : List Nat) (n k : Nat) (hk : k < n) : (plaT ls n)[k]? = some (plAt ls k) := by
  induction n with
  | zero => omega
  | succ n ih =>
    rw [plaT_succ]
    by_cases e : k = n
    · subst e; rw [List.getElem?_append_right (by rw [plaT_length]; omega), plaT_length, Nat.sub_self]; rfl
    · rw [List.getElem?_append_left (by rw [plaT_length]; omega)]; exact ih (by omega)
theorem endT_mono (ls : List Nat) {k n : Nat} (hk : k ≤ n) : endT ls k ≤ endT ls n := by
  induction n with
  | zero => obtain rfl : k = 0 := by omega
            exact Nat.le_refl _
  | succ n ih =>
    by_cases e : k = n + 1
    · rw [← e]; exact Nat.le_refl _
    · refine Nat.le_trans (ih (by omega)) ?_
      rw [endT]
      cases ls[n]? with
      | none => exact Nat.le_refl _
      | some m => simp only; split
                  · exact Nat.le_refl _
                  · simp only [roundN]; omega
theorem plAt_fits (ls : List Nat) (k : Nat) {m : Nat} (h : ls[k]? = some m) {n : Nat} (hn : k < n) : plAt ls k + m ≤ endT ls n := by
  refine Nat.le_trans ?_ (endT_mono ls (show k + 1 ≤ n by omega))
  unfold plAt
  rw [endT, h]
  simp only
  split
  · omega
  · exact Nat.le_refl _
theorem plAt_zero (ls : List Nat) (k : Nat) (h : ls[k]? = some 0) : plAt ls k = 0 := by unfold plAt; rw [h]; rfl
theorem endT_head (ls : List Nat) (k : Nat) : 64 + 56 * ls.length ≤ endT ls k := endT_mono ls (Nat.zero_le k)
theorem plAt_head (ls : List Nat) (k : Nat) {m : Nat} (h : ls[k]? = some m) (hm : m ≠ 0) : 64 + 56 * ls.length ≤ plAt ls k := by
  have := endT_head ls k
  unfold plAt
  rw [h]
  simp only [if_neg hm, roundN]
  omega

def dlens (ss : List Sgd) : List Nat := ss.map fun s => s.data.length
theorem dlens_length (ss : List Sgd) : (Go.Pat.dlens ss).length = ss.length := List.length_map ..
def fileT (en : Nat) (ss : List Sgd) : Nat → List UInt8
  | 0 => splice (List.replicate (endT (Go.Pat.dlens ss) ss.length) 0) 0 (headB en ss.length)
  | k + 1 => match ss[k]? with
    | none => fileT en ss k
    | some s => splice (splice (fileT en ss k) (64 + 56 * k) (rowB s.addr s.perm.toNat s.data.length s.size (plAt (Go.Pat.dlens ss) k))) (plAt (Go.Pat.dlens ss) k) s.data
def fileB (en : Nat) (ss : List Sgd) : List UInt8 := fileT en ss ss.length
theorem fileT_length (en : Nat) (ss : List Sgd) (k : Nat) : (fileT en ss k).length = endT (Go.Pat.dlens ss) ss.length := by
  have hh := endT_head (Go.Pat.dlens ss) ss.length
  rw [dlens_length] at hh
  induction k with
  | zero => rw [fileT, length_splice _ _ _ (by rw [headB_length, List.length_replicate]; omega), List.length_replicate]
  | succ k ih =>
    rw [fileT]
    cases hc : ss[k]? with
    | none => exact ih
    | some s =>
      obtain ⟨hk, rfl⟩ := List.getElem?_eq_some_iff.1 hc
      have h2 := plAt_fits (Go.Pat.dlens ss) k (m := ss[k].data.length) (by simp [Go.Pat.dlens, hk]) hk
      simp only
      rw [length_splice _ _ _ (by rw [length_splice _ _ _ (by rw [rowB_length, ih]; omega), ih]; omega), length_splice _ _ _ (by rw [rowB_length, ih]; omega), ih]
theorem splice_left {α : Type} (l m : List α) (a : Nat) (xs : List α) (h : a + xs.length ≤ l.length) : splice (l ++ m) a xs = splice l a xs ++ m := by
  unfold splice
  rw [List.take_append_of_le_length (by omega), List.drop_append_of_le_length (by omega)]
  simp
theorem splice_ge {α : Type} (l : List α) (a : Nat) (xs : List α) : l.length ≤ (splice l a xs).length := by
  simp only [splice, List.length_append, List.length_take, List.length_drop]
  omega
theorem head_chain (n en c : Nat) (hn : 64 ≤ n) :
    splice (splice (splice (splice (splice (splice (splice (splice (splice (List.replicate n (0 : UInt8)) 0 [127, 69, 76, 70, 2, 1, 1]) 16 (le 2 2)) 18 (le 2 243)) 20 (le 4 1)) 24 (le 8 en)) 32 (le 8 64)) 52 (le 2 64)) 54 (le 2 56)) 56 (le 2 c) =
    splice (List.replicate n 0) 0 (headB en c) := by
  obtain ⟨r, rfl⟩ : ∃ r, n = 64 + r := ⟨n - 64, by omega⟩
  rw [← List.replicate_append_replicate]
  rw [splice_left _ _ 0 [127, 69, 76, 70, 2, 1, 1] (by decide)]
  rw [splice_left _ _ 16 (le 2 2) (by rw [le_length]; refine Nat.le_trans ?_ (splice_ge _ _ _); decide)]
  rw [splice_left _ _ 18 (le 2 243) (by rw [le_length]; refine Nat.le_trans ?_ (splice_ge _ _ _); refine Nat.le_trans ?_ (splice_ge _ _ _); decide)]
  rw [splice_left _ _ 20 (le 4 1) (by rw [le_length]; refine Nat.le_trans ?_ (splice_ge _ _ _); refine Nat.le_trans ?_ (splice_ge _ _ _); refine Nat.le_trans ?_ (splice_ge _ _ _); decide)]
  rw [splice_left _ _ 24 (le 8 en) (by rw [le_length]; refine Nat.le_trans ?_ (splice_ge _ _ _); refine Nat.le_trans ?_ (splice_ge _ _ _); refine Nat.le_trans ?_ (splice_ge _ _ _); refine Nat.le_trans ?_ (splice_ge _ _ _); decide)]
  rw [splice_left _ _ 32 (le 8 64) (by rw [le_length]; refine Nat.le_trans ?_ (splice_ge _ _ _); refine Nat.le_trans ?_ (splice_ge _ _ _); refine Nat.le_trans ?_ (splice_ge _ _ _); refine Nat.le_trans ?_ (splice_ge _ _ _); refine Nat.le_trans ?_ (splice_ge _ _ _); decide)]
  rw [splice_left _ _ 52 (le 2 64) (by rw [le_length]; refine Nat.le_trans ?_ (splice_ge _ _ _); refine Nat.le_trans ?_ (splice_ge _ _ _); refine Nat.le_trans ?_ (splice_ge _ _ _); refine Nat.le_trans ?_ (splice_ge _ _ _); refine Nat.le_trans ?_ (splice_ge _ _ _); refine Nat.le_trans ?_ (splice_ge _ _ _); decide)]
  rw [splice_left _ _ 54 (le 2 56) (by rw [le_length]; refine Nat.le_trans ?_ (splice_ge _ _ _); refine Nat.le_trans ?_ (splice_ge _ _ _); refine Nat.le_trans ?_ (splice_ge _ _ _); refine Nat.le_trans ?_ (splice_ge _ _ _); refine Nat.le_trans ?_ (splice_ge _ _ _); refine Nat.le_trans ?_ (splice_ge _ _ _); refine Nat.le_trans ?_ (splice_ge _ _ _); decide)]
  rw [splice_left _ _ 56 (le 2 c) (by rw [le_length]; refine Nat.le_trans ?_ (splice_ge _ _ _); refine Nat.le_trans ?_ (splice_ge _ _ _); refine Nat.le_trans ?_ (splice_ge _ _ _); refine Nat.le_trans ?_ (splice_ge _ _ _); refine Nat.le_trans ?_ (splice_ge _ _ _); refine Nat.le_trans ?_ (splice_ge _ _ _); refine Nat.le_trans ?_ (splice_ge _ _ _); refine Nat.le_trans ?_ (splice_ge _ _ _); decide)]
  rw [splice_left _ _ 0 (headB en c) (by rw [headB_length]; decide)]
  rfl
theorem row_chain (l : List UInt8) (a addr perm len size at_ : Nat) (h : a + 56 ≤ l.length) :
    splice (splice (splice (splice (splice (splice (splice (splice l a (le 4 1)) (a + 4) (le 4 perm)) (a + 8) (le 8 at_)) (a + 16) (le 8 addr)) (a + 24) (le 8 addr)) (a + 32) (le 8 len)) (a + 40) (le 8 size)) (a + 48) (le 8 4096) =
    splice l a (rowB addr perm len size at_) := by
  have st : ∀ (xs ys : List UInt8) (k : Nat), xs.length = k → k + ys.length ≤ 56 → splice (splice l a xs) (a + k) ys = splice l a (xs ++ ys) := by
    intro xs ys k hk h2
    subst hk
    exact splice_splice l a xs ys (by omega)
  unfold rowB
  rw [st _ _ 4 (by simp [le_length]) (by simp [le_length]), st _ _ 8 (by simp [le_length]) (by simp [le_length]), st _ _ 16 (by simp [le_length]) (by simp [le_length]), st _ _ 24 (by simp [le_length]) (by simp [le_length]),
    st _ _ 32 (by simp [le_length]) (by simp [le_length]), st _ _ 40 (by simp [le_length]) (by simp [le_length]), st _ _ 48 (by simp [le_length]) (by simp [le_length])]
end Go.Pat
namespace Go.Proofs
open Go Go.RowKit Go.Pat

theorem Tryz_infoU8 : (Tryz.prog.info? 5).map (fun i => (i.zero, i.size, i.bytes)) = some (some (.int .u8 0), 1, 1) := by kernel_rfl
theorem Tryz_sizeU8 : (Tryz.prog.info? 5).map (·.size) = some 1 := by kernel_rfl
theorem made_bytes (n : Nat) : madeCells #[.int .u8 0] n = (bcells (List.replicate n 0)).toArray := by
  apply Array.ext
  · rw [size_madeCells]; simp [bcells]
  · intro i h1 h2
    simp [madeCells, bcells, bval, Nat.mod_one]
theorem run_makeB (w : World) (k : IntKind) (n : Nat) (hn : n ≤ 281474976710656) : (Instr.makeSlice 35 (.int k (n : Int)) (.int k (n : Int))).run Tryz.prog w = .ok (.slice (some ⟨w.heap.size, 0, none⟩) n n) (w.alloc (.cells (bcells (List.replicate n 0)).toArray 5)) := by
  obtain ⟨i, hi, hz0, hz1, hz2⟩ := info_parts Tryz_infoU8
  have h := run_make (P := Tryz.prog) w 35 5 i _ Tryz.underlying35 hi hz0 k k (n : Int) (n : Int) (by omega) (by omega) (by rw [hz2]; omega) (by omega)
  rw [hz1, Nat.mul_one, Int.toNat_natCast] at h
  rw [← made_bytes]
  exact h
theorem buf_made (w : World) (l : List UInt8) : Buf (w.alloc (.cells (bcells l).toArray 5)) w.heap.size l := heap_alloc_new w _

theorem wpList_makeB {ops : Array Oper} {rest : List Oper} {o : Oper} {a : Act} {Q : Exit → Act → World → Prop} (w : World) (hgd : o.guard = none) (x y : Operand) (ho : o.op = Op.makeSlice 35 x y) (k : IntKind) (n : Nat)
    (hx : a.eval x = .int k (n : Int)) (hy : a.eval y = .int k (n : Int)) (hn : n ≤ 281474976710656)
    (h : ∀ w', Buf w' w.heap.size (List.replicate n 0) → Below w.heap.size w w' → w'.heap.size = w.heap.size + 1 → wpList Tryz.prog ops Q rest (a.put o.dst (.slice (some ⟨w.heap.size, 0, none⟩) n n)) w') :
    wpList Tryz.prog ops Q (o :: rest) a w := by
  refine wpList_plain hgd fun K hK => ?_
  have hrun := run_makeB w k n hn
  unfold Oper.wp
  simp only [execOp, ho, Sem.run_bind, hx, hy, hrun, Result.andThen]
  exact hK _ _ (h _ (buf_made w _) ((Below.refl _ _).alloc (Nat.le_refl _) _) (by simp))
theorem run_copyB (w : World) (ty : TypeId) (g off dLen dCap : Nat) (l : List UInt8) (hB : Buf w g l) (A : Option Addr) (sLen sCap B : Nat) (xs : List UInt8) (hr : Bs B w A xs) (hx : xs.length = sLen) (hle : sLen ≤ dLen) (hfit : off + sLen ≤ l.length) :
    ∃ w', (Builtin.copy_ #[35, 35] ty #[.slice (some ⟨g, off, none⟩) dLen dCap, .slice A sLen sCap]).run Tryz.prog w = .ok (goInt sLen) w' ∧ Buf w' g (splice l off xs) ∧ KeptBut (fun b => b = g) w w' := by
  by_cases h0 : sLen = 0
  · subst h0
    obtain rfl : xs = [] := List.eq_nil_of_length_eq_zero hx
    refine ⟨w, run_copy_none (P := Tryz.prog) w 35 35 ty 5 _ A dLen dCap 0 sCap Tryz.underlying35 Tryz_sizeU8 (by simp), ?_, .refl _ _⟩
    rw [splice_nil]; exact hB
  · obtain ⟨b, o, rfl, _⟩ := hr.form (by intro h; have := congrArg List.length h; rw [bcells_length] at this; simp at this; rw [this] at hx; simp at hx; omega)
    have hrun := run_copy_row (P := Tryz.prog) w 35 35 ty 5 g off dLen dCap ⟨b, o, none⟩ sLen sCap (bcells l).toArray 5 (bcells xs) Tryz.underlying35 Tryz_sizeU8 hB (by rw [bcells_length, hx]; exact (Nat.min_eq_left hle).symm) (hr.news rfl) (by rw [bcells_length, List.size_toArray, bcells_length]; omega) (bcells_one xs)
    rw [bcells_length, hx] at hrun
    refine ⟨_, hrun, ?_, rfl, rfl, rfl, by simp [World.setRow], fun k _ hk => setRow_other w g k _ hk⟩
    have hs := setRow_heap w g (bcells l).toArray (((bcells l).toArray.toList.take off ++ bcells xs ++ (bcells l).toArray.toList.drop (off + sLen)).toArray) _ _ hB
    unfold Buf
    rw [hs, ← bcells_splice]
    simp [splice, bcells_length, hx]
theorem wpList_copyB {ops : Array Oper} {rest : List Oper} {o : Oper} {a : Act} {Q : Exit → Act → World → Prop} (w : World) (hgd : o.guard = none) (d s : Operand)
    (ho : o.op = .call { callee := .builtin .copy, args := #[d, s], argTypes := #[35, 35] }) (g off dLen dCap : Nat) (hd : a.eval d = .slice (some ⟨g, off, none⟩) dLen dCap) (l : List UInt8) (hB : Buf w g l)
    (A : Option Addr) (sLen sCap B : Nat) (hs : a.eval s = .slice A sLen sCap) (xs : List UInt8) (hr : Bs B w A xs) (hx : xs.length = sLen) (hle : sLen ≤ dLen) (hfit : off + sLen ≤ l.length)
    (h : ∀ w', Buf w' g (splice l off xs) → KeptBut (fun b => b = g) w w' → wpList Tryz.prog ops Q rest (a.put o.dst (goInt sLen)) w') :
    wpList Tryz.prog ops Q (o :: rest) a w := by
  refine wpList_plain hgd fun K hK => ?_
  obtain ⟨w', hrun, h1, h2⟩ := run_copyB w o.type g off dLen dCap l hB A sLen sCap B xs hr hx hle hfit
  unfold Oper.wp
  simp [execOp, ho, resolve, invoke, builtin, hd, hs, hrun, Result.andThen]
  exact hK _ _ (h w' h1 h2)
theorem step_copyB {ops : Array Oper} {o : Oper} {a : Act} {w : World} {K : Act → World → Prop} {Q : Exit → Act → World → Prop} {E : Prop} (hgd : o.guard = none) (d s : Operand)
    (ho : o.op = .call { callee := .builtin .copy, args := #[d, s], argTypes := #[35, 35] }) (g off dLen dCap : Nat) (hd : a.eval d = .slice (some ⟨g, off, none⟩) dLen dCap) (l : List UInt8) (hB : Buf w g l)
    (A : Option Addr) (sLen sCap B : Nat) (hs : a.eval s = .slice A sLen sCap) (xs : List UInt8) (hr : Bs B w A xs) (hx : xs.length = sLen) (hle : sLen ≤ dLen) (hfit : off + sLen ≤ l.length)
    (h : ∀ w', Buf w' g (splice l off xs) → KeptBut (fun b => b = g) w w' → K (a.put o.dst (goInt sLen)) w') :
    if Region.wanted o (yielded ops a.tmps) = true then Oper.wp Tryz.prog o a w K Q else E := by
  have hw : Region.wanted o (yielded ops a.tmps) = true := by simp [Region.wanted, hgd]
  rw [if_pos hw]
  obtain ⟨w', hrun, h1, h2⟩ := run_copyB w o.type g off dLen dCap l hB A sLen sCap B xs hr hx hle hfit
  unfold Oper.wp
  simp [execOp, ho, resolve, invoke, builtin, hd, hs, hrun, Result.andThen]
  exact h w' h1 h2

end Go.Proofs

/- elf.Write, elf.Size; patinaref04.Write, Size. -/
namespace Go.Pat
open Go Go.RowKit

structure CheckOK (en : Nat) (ss : List Sgd) : Prop where
  some_ : 1 ≤ ss.length
  few : ss.length ≤ 8
  ok : okT ss ss.length = true
  pages : pagT ss ss.length ≤ 4096
  entry : entT en ss ss.length = true
  four : en % 4 = 0
theorem check_ok {en : Nat} {ss : List Sgd} (h : checkE en ss = 0) : CheckOK en ss := by
  unfold checkE at h
  split at h
  · cases h
  · rename_i hn
    simp only [not_or, Nat.not_lt, Bool.not_eq_false] at hn
    obtain ⟨h1, h2, h3, h4, h5, h6⟩ := hn
    exact ⟨h1, h2, h3, h4, h5, by omega⟩
theorem check_no {en : Nat} {ss : List Sgd} (h : checkE en ss ≠ 0) : checkE en ss = 40 := by
  unfold checkE at h ⊢
  split
  · rfl
  · rename_i hn; rw [if_neg hn] at h; exact absurd rfl h
theorem allowedB_range {p : Int} (h : allowedB p = true) : 0 ≤ p ∧ p ≤ 7 := by
  simp only [allowedB, Bool.and_eq_true, decide_eq_true_eq] at h
  omega
theorem CheckOK.seg {en : Nat} {ss : List Sgd} (h : CheckOK en ss) : ∀ s ∈ ss, s.data.length ≤ 16777216 ∧ 0 ≤ s.perm ∧ s.perm ≤ 7 := by
  intro s hs
  obtain ⟨k, hk, rfl⟩ := List.getElem_of_mem hs
  have hf := okT_at h.ok k hk hk
  exact ⟨Nat.le_trans hf.fits hf.most, allowedB_range hf.perm⟩

/-- what both Size tell. -/
def sizeE (en : Nat) (ss : List Sgd) : Nat := if checkE en ss = 0 then endT (Go.Pat.dlens ss) ss.length else 0
theorem dlens_d (ss : List Sg) : Go.Pat.dlens (ss.map Sg.d) = ss.map fun s => s.data.length := by simp [Go.Pat.dlens, Sg.d]
/-- what both Write tell. -/
def WroteP (w : World) (en : Nat) (ss : List Sgd) (e : Ending) (w' : World) : Prop :=
  (checkE en ss = 0 ∧ ∃ g n, e = .returned (.tuple #[.slice (some ⟨g, 0, none⟩) n n, .int .i64 0]) ∧ Buf w' g (fileB en ss) ∧ w.heap.size ≤ g ∧ n = (fileB en ss).length ∧ n ≤ 140737488351232 ∧ Below w.heap.size w w') ∨
  (checkE en ss = 40 ∧ e = .returned (.tuple #[.slice none 0 0, .int .i64 40]) ∧ Below w.heap.size w w')
end Go.Pat
namespace Go.Proofs
open Go Go.RowKit Go.Pat

end Go.Proofs

/- patinaref04.Write makes the file that elf.Write makes. -/
namespace Go.Proofs
open Go Go.RowKit Go.Pat

end Go.Proofs

/- A slice of segments of the call's own. -/
namespace Go.Pat
open Go Go.RowKit

def Sg.cells (s : Sg) : List Value := [.int .u64 (s.addr : Int), .int .i64 s.perm, .slice s.A s.data.length s.cap, .int .u64 (s.size : Int)]
def scells : List Sg → List Value
  | [] => []
  | s :: r => s.cells ++ scells r
theorem scells_length (ss : List Sg) : (scells ss).length = ss.length * 4 := by
  induction ss with
  | nil => rfl
  | cons s r ih => simp [scells, Sg.cells, ih]; omega
theorem scells_append (a b : List Sg) : scells (a ++ b) = scells a ++ scells b := by
  induction a with
  | nil => rfl
  | cons s r ih => simp [scells, ih]
theorem scells_one (ss : List Sg) : ∀ u ∈ scells ss, u.oneCell' = true := by
  induction ss with
  | nil => intro u hu; cases hu
  | cons s r ih =>
    intro u hu
    simp only [scells, Sg.cells, List.cons_append, List.nil_append, List.mem_cons] at hu
    rcases hu with rfl | rfl | rfl | rfl | h
    · rfl
    · rfl
    · rfl
    · rfl
    · exact ih u h
theorem scells_get (ss : List Sg) (i : Nat) (hi : i < ss.length) (j : Nat) (hj : j < 4) : (scells ss)[i * 4 + j]? = (ss[i].cells)[j]? := by
  induction ss generalizing i with
  | nil => simp at hi
  | cons s r ih =>
    cases i with
    | zero => simp only [scells, Nat.zero_mul, Nat.zero_add, List.getElem_cons_zero]; rw [List.getElem?_append_left (by simp [Sg.cells]; omega)]
    | succ i =>
      rw [show (i + 1) * 4 + j = 4 + (i * 4 + j) by omega]
      simp only [scells, List.getElem_cons_succ]
      rw [List.getElem?_append_right (by simp [Sg.cells])]
      simp only [Sg.cells, List.length_cons, List.length_nil]
      rw [show 4 + (i * 4 + j) - (0 + 1 + 1 + 1 + 1) = i * 4 + j by omega]
      exact ih i (by simpa using hi)
end Go.Pat
namespace Go.Proofs
open Go Go.RowKit Go.Pat

theorem Tryz_elSeg : ElT Tryz.prog 57 66 (.agg #[.int .u64 0, .int .i64 0, .slice none 0 0, .int .u64 0]) 4 48 := ⟨Tryz.underlying57, by kernel_rfl, rfl, by decide⟩
def OwnS (w : World) (base : Nat) (v : Value) (ss : List Sg) : Prop := w.ownsRow base 66 4 v ss.length (scells ss)
theorem OwnS.form {w : World} {base : Nat} {v : Value} {ss : List Sg} (h : OwnS w base v ss) : ∃ A c, v = .slice A ss.length c ∧ Cs w.heap.size w A (scells ss) := by
  rcases h.2 with ⟨rfl, h0⟩ | ⟨g, cap, cur, rfl, _, hh, hn, hm, hc, ht⟩
  · exact ⟨none, 0, by rw [h0], fun i hi => by rw [scells_length] at hi; omega⟩
  · exact ⟨_, cap, rfl, Cs.of_own (c := cap) h⟩
theorem OwnS.keep {w w' : World} {base : Nat} {v : Value} {ss : List Sg} (h : OwnS w base v ss) (hb : ∀ g, v.ownBlock = some g → w'.heap[g]? = w.heap[g]?) : OwnS w' base v ss := by
  refine ⟨h.1, ?_⟩
  rcases h.2 with h0 | ⟨g, cap, cur, rfl, hg, hh, r⟩
  · exact .inl h0
  · exact .inr ⟨g, cap, cur, rfl, hg, (hb g rfl).trans hh, r⟩
theorem OwnS.below {w w' : World} {base : Nat} {v : Value} {ss : List Sg} (h : OwnS w base v ss) (hb : Below w.heap.size w w') : OwnS w' base v ss := h.keep fun g hg => hb.block g (h.lt g hg).2
theorem OwnS.nil (w : World) (base : Nat) : OwnS w base (.slice none 0 0) [] := ⟨rfl, .inl ⟨rfl, rfl⟩⟩
theorem OwnS.block {w : World} {base : Nat} {v : Value} {ss : List Sg} (h : OwnS w base v ss) {g : Nat} (hg : v.ownBlock = some g) : base ≤ g ∧ ∃ cur, w.heap[g]? = some (.cells cur 66 (0, 0)) := by
  rcases h.2 with ⟨rfl, _⟩ | ⟨g2, cap, cur, rfl, h1, hh, _⟩
  · cases hg
  · obtain rfl : g2 = g := by simpa [Value.ownBlock] using hg
    exact ⟨h1, cur, hh⟩
/-- segments of the call's own, their bytes too. -/
structure OwnSs (w : World) (base : Nat) (v : Value) (ss : List Sg) : Prop where
  row : OwnS w base v ss
  bytes : ∀ s ∈ ss, OwnB w base (.slice s.A s.data.length s.cap) s.data
  small : ∀ s ∈ ss, s.addr < 18446744073709551616 ∧ s.size < 18446744073709551616 ∧ s.data.length ≤ 140737488351232
theorem OwnSs.below {w w' : World} {base : Nat} {v : Value} {ss : List Sg} (h : OwnSs w base v ss) (hb : Below w.heap.size w w') : OwnSs w' base v ss :=
  ⟨h.row.below hb, fun s hs => (h.bytes s hs).below hb, h.small⟩
theorem OwnSs.nil (w : World) (base : Nat) : OwnSs w base (.slice none 0 0) [] := ⟨.nil w base, by simp, by simp⟩
/-- a store outside of them. -/
theorem OwnSs.put {w w' : World} {base : Nat} {v : Value} {ss : List Sg} (h : OwnSs w base v ss) {r : Nat} {cs : Array Value} {t : TypeId} {fr : Nat × Nat} (hr : w.heap[r]? = some (.cells cs t fr)) (h1 : t ≠ 66) (h2 : t ≠ 5)
    (hb : KeptBut (fun b => b = r) w w') : OwnSs w' base v ss := by
  refine ⟨h.row.keep fun g hg => ?_, fun s hs => (h.bytes s hs).keep fun g hg => ?_, h.small⟩
  · obtain ⟨_, cur, hc⟩ := h.row.block hg
    refine hb.block g (lt_of_block hc) ?_
    rintro rfl
    rw [hr] at hc
    cases hc
    exact h1 rfl
  · obtain ⟨_, cur, hc⟩ := (h.bytes s hs).block hg
    refine hb.block g (lt_of_block hc) ?_
    rintro rfl
    rw [hr] at hc
    cases hc
    exact h2 rfl
theorem OwnSs.sgs {w : World} {base : Nat} {v : Value} {ss : List Sg} (h : OwnSs w base v ss) (hf : ss.length ≤ 140737488351232) : ∃ A c, v = .slice A ss.length c ∧ SgsAt w.heap.size w A ss := by
  obtain ⟨A, c, rfl, hc⟩ := h.row.form
  refine ⟨A, c, rfl, fun i hi => ?_, fun s hs => ?_, h.small, hf, fun s hs => ?_⟩
  · have hlen := scells_length ss
    have gt : ∀ j, j < 4 → ∃ b o, A = some ⟨b, o, none⟩ ∧ b < w.heap.size ∧ w.cell? ⟨b, o + (i * 4 + j), none⟩ = (ss[i].cells)[j]? := fun j hj => by
      obtain ⟨b, o, e, hb, hx⟩ := hc (i * 4 + j) (by omega)
      refine ⟨b, o, e, hb, ?_⟩
      rw [hx, ← scells_get ss i hi j hj, List.getElem?_eq_getElem (by omega)]
    obtain ⟨b, o, rfl, hb, g0⟩ := gt 0 (by omega)
    obtain ⟨b1, o1, e1, _, g1⟩ := gt 1 (by omega)
    obtain ⟨b2, o2, e2, _, g2⟩ := gt 2 (by omega)
    obtain ⟨b3, o3, e3, _, g3⟩ := gt 3 (by omega)
    cases e1
    cases e2
    cases e3
    exact ⟨b, o, rfl, hb, g0, g1, g2, g3⟩
  · obtain ⟨A2, c2, e, hb⟩ := (h.bytes s hs).form
    cases e
    exact hb
  · rcases (h.bytes s hs).2 with ⟨e, h0⟩ | ⟨g, cap, cur, e, _, hh, hn, _⟩
    · omega
    · simp only [Value.slice.injEq] at e
      omega

theorem wpList_appS {ops : Array Oper} {rest : List Oper} {o : Oper} {a : Act} {Q : Exit → Act → World → Prop} (w : World) (hgd : o.guard = none) (x y : Operand)
    (ho : o.op = .call { callee := .builtin .append, args := #[x, y], argTypes := #[57, 57] }) (base : Nat) (v : Value) (ss : List Sg) (hx : a.eval x = v) (hown : OwnSs w base v ss)
    (b c : Nat) (s : Sg) (hy : a.eval y = .slice (some ⟨b, 0, none⟩) 1 c) (hb : w.heap[b]? = some (.cells s.cells.toArray 66 (0, 0))) (_hnb : v.ownBlock ≠ some b) (hsb : OwnB w base (.slice s.A s.data.length s.cap) s.data)
    (hss : s.addr < 18446744073709551616 ∧ s.size < 18446744073709551616 ∧ s.data.length ≤ 140737488351232) (hlen : ss.length + 1 ≤ 1000) (hbase : base ≤ w.heap.size)
    (h : ∀ v' w', OwnSs w' base v' (ss ++ [s]) → (∀ W, Below base W w → Below base W w') → (∀ g, g < w.heap.size → v.ownBlock ≠ some g → w'.heap[g]? = w.heap[g]?) → wpList Tryz.prog ops Q rest (a.put o.dst v') w') :
    wpList Tryz.prog ops Q (o :: rest) a w := by
  have hcs : Cs w.heap.size w (some ⟨b, 0, none⟩) (scells [s]) := fun i hi => by
    have hi4 : i < 4 := by simpa [scells, Sg.cells] using hi
    refine ⟨b, 0, rfl, lt_of_block hb, ?_⟩
    simp only [World.cell?, hb, Nat.zero_add]
    simp [scells]
  refine wpList_app w hgd x y 57 ho Tryz_elSeg base v ss.length (scells ss) hx hown.row _ (some ⟨b, 0, none⟩) 1 c (scells [s]) hy (by simp [scells, Sg.cells]) hcs (scells_one [s]) (by simp only [maxLen]; omega) (by omega) hbase ?_
  intro v' w' h1 hg hnil hat
  have hk : ∀ g, g < w.heap.size → v.ownBlock ≠ some g → w'.heap[g]? = w.heap[g]? := fun g hg1 hg2 => hg.block g hg1 (fun e => hg2 e.symm)
  refine h v' w' ⟨?_, ?_, ?_⟩ (fun W hW => own_below hown.row hW hg hbase) hk
  · unfold OwnS
    rw [List.length_append, scells_append]
    exact h1
  · have keepB : ∀ t : Sg, OwnB w base (.slice t.A t.data.length t.cap) t.data → OwnB w' base (.slice t.A t.data.length t.cap) t.data := fun t ht => ht.keep fun g hgb => by
      obtain ⟨_, cur, hc⟩ := ht.block hgb
      refine hk g (lt_of_block hc) (fun e => ?_)
      obtain ⟨_, cur2, hc2⟩ := hown.row.block e
      rw [hc] at hc2
      cases hc2
    intro t ht
    rcases List.mem_append.1 ht with ht | ht
    · exact keepB t (hown.bytes t ht)
    · obtain rfl := List.mem_singleton.1 ht
      exact keepB t hsb
  · intro t ht
    rcases List.mem_append.1 ht with ht | ht
    · exact hown.small t ht
    · obtain rfl := List.mem_singleton.1 ht
      exact hss
end Go.Proofs

/- elf.says: what the bytes of a file say. -/
namespace Go.Pat
open Go Go.RowKit

def cntK (l : List UInt8) (k : Nat) : Nat := num l (64 + 56 * k + 32) 8
def sayS (l : List UInt8) (k : Nat) (d : List UInt8) : Sgd := ⟨num l (64 + 56 * k + 16) 8, (num l (64 + 56 * k + 4) 4 : Nat), d, num l (64 + 56 * k + 40) 8⟩
inductive Said where
  | none
  | some (ss : List Sgd) (e : Nat)
def saysT (l : List UInt8) (n : Nat) : Nat → Said
  | 0 => .some [] (64 + 56 * n)
  | k + 1 => match saysT l n k with
    | .none => .none
    | .some ss e => if cntK l k = 0 then .some (ss ++ [sayS l k []]) e else if l.length < roundN e ∨ l.length - roundN e < cntK l k then .none
      else .some (ss ++ [sayS l k ((l.drop (roundN e)).take (cntK l k))]) (roundN e + cntK l k)
theorem saysT_none {l : List UInt8} {n k m : Nat} (h : saysT l n k = .none) (hk : k ≤ m) : saysT l n m = .none := by
  induction m with
  | zero => obtain rfl : k = 0 := by omega
            exact h
  | succ m ih =>
    by_cases e : k = m + 1
    · rw [← e]; exact h
    · rw [saysT, ih (by omega)]
theorem saysT_zero {l : List UInt8} {n k x : Nat} {ss : List Sgd} (h : saysT l n k = .some ss x) (hc : cntK l k = 0) : saysT l n (k + 1) = .some (ss ++ [sayS l k []]) x := by
  rw [saysT, h]; simp only [if_pos hc]
theorem saysT_no {l : List UInt8} {n k x : Nat} {ss : List Sgd} (h : saysT l n k = .some ss x) (hc : cntK l k ≠ 0) (hb : l.length < roundN x ∨ l.length - roundN x < cntK l k) : saysT l n (k + 1) = .none := by
  rw [saysT, h]; simp only [if_neg hc, if_pos hb]
theorem saysT_yes {l : List UInt8} {n k x : Nat} {ss : List Sgd} (h : saysT l n k = .some ss x) (hc : cntK l k ≠ 0) (hb : ¬ (l.length < roundN x ∨ l.length - roundN x < cntK l k)) :
    saysT l n (k + 1) = .some (ss ++ [sayS l k ((l.drop (roundN x)).take (cntK l k))]) (roundN x + cntK l k) := by
  rw [saysT, h]; simp only [if_neg hc, if_neg hb]
end Go.Pat
namespace Go.Proofs
open Go Go.RowKit Go.Pat

theorem OwnS.base {w : World} {base b2 : Nat} {v : Value} {ss : List Sg} (h : OwnS w base v ss) (hb : b2 ≤ base) : OwnS w b2 v ss := by
  refine ⟨h.1, ?_⟩
  rcases h.2 with h0 | ⟨g, cap, cur, hv, hg, r⟩
  · exact .inl h0
  · exact .inr ⟨g, cap, cur, hv, by omega, r⟩
theorem set2_0 {w : World} {b : Nat} {x y : Value} {t : TypeId} (h : w.heap[b]? = some (.cells #[x, y] t (0, 0))) (u u' : Value) : ((w.setCell ⟨b, 0, none⟩ u).setCell ⟨b, 1, none⟩ u').cell? ⟨b, 0, none⟩ = some u := by
  rw [obj_cell (obj_set (obj_set h 0 u) 1 u') 0]; rfl
theorem set2_1 {w : World} {b : Nat} {x y : Value} {t : TypeId} (h : w.heap[b]? = some (.cells #[x, y] t (0, 0))) (u u' : Value) : ((w.setCell ⟨b, 0, none⟩ u).setCell ⟨b, 1, none⟩ u').cell? ⟨b, 1, none⟩ = some u' := by
  rw [obj_cell (obj_set (obj_set h 0 u) 1 u') 1]; rfl
/-- what says tells. -/
def SaysP (w : World) (l : List UInt8) (n : Nat) (e : Ending) (w' : World) : Prop :=
  (saysT l n n = .none ∧ (∃ (a : Int) (A : Option Addr) (m c : Nat), e = .returned (.tuple #[.agg #[.int .u64 a, .slice A m c], .bool false])) ∧ Below w.heap.size w w') ∨
  (∃ ss ed v gs, saysT l n n = .some ss ed ∧ e = .returned (.tuple #[.agg #[.int .u64 (num l 24 8 : Nat), v], .bool true]) ∧ OwnSs w' w.heap.size v gs ∧ gs.map Sg.d = ss ∧ gs.length = n ∧ Below w.heap.size w w')

end Go.Proofs

/- append as one step of a region that draws; segments that are stored anew. -/
namespace Go.Pat
open Go Go.RowKit
theorem scells_set (ss : List Sg) (k : Nat) (hk : k < ss.length) (s : Sg) :
    (((((scells ss).set (k * 4) (.int .u64 (s.addr : Int))).set (k * 4 + 1) (.int .i64 s.perm)).set (k * 4 + 2) (.slice s.A s.data.length s.cap)).set (k * 4 + 3) (.int .u64 (s.size : Int))) = scells (ss.set k s) := by
  induction ss generalizing k with
  | nil => simp at hk
  | cons x r ih =>
    cases k with
    | zero => simp [scells, Sg.cells]
    | succ k =>
      have := ih k (by simpa using hk)
      rw [show (k + 1) * 4 = k * 4 + 4 by omega, show k * 4 + 4 + 1 = k * 4 + 1 + 4 by omega, show k * 4 + 4 + 2 = k * 4 + 2 + 4 by omega, show k * 4 + 4 + 3 = k * 4 + 3 + 4 by omega]
      simp only [scells, Sg.cells, List.cons_append, List.nil_append, List.set_cons_succ, List.set_cons_succ]
      rw [this]
end Go.Pat
namespace Go.Proofs
open Go Go.RowKit Go.Pat

theorem OwnSs.grow {w w' : World} {base : Nat} {v v' : Value} {ss : List Sg} {s : Sg} (hown : OwnSs w base v ss) (hsb : OwnB w base (.slice s.A s.data.length s.cap) s.data)
    (hss : s.addr < 18446744073709551616 ∧ s.size < 18446744073709551616 ∧ s.data.length ≤ 140737488351232) (h1 : w'.ownsRow base 66 4 v' (ss.length + 1) (scells ss ++ scells [s]))
    (hk : ∀ g, g < w.heap.size → v.ownBlock ≠ some g → w'.heap[g]? = w.heap[g]?) : OwnSs w' base v' (ss ++ [s]) := by
  refine ⟨?_, ?_, ?_⟩
  · unfold OwnS
    rw [List.length_append, scells_append]
    exact h1
  · have keepB : ∀ t : Sg, OwnB w base (.slice t.A t.data.length t.cap) t.data → OwnB w' base (.slice t.A t.data.length t.cap) t.data := fun t ht => ht.keep fun g hgb => by
      obtain ⟨_, cur, hc⟩ := ht.block hgb
      refine hk g (lt_of_block hc) (fun e => ?_)
      obtain ⟨_, cur2, hc2⟩ := hown.row.block e
      rw [hc] at hc2
      cases hc2
    intro t ht
    rcases List.mem_append.1 ht with ht | ht
    · exact keepB t (hown.bytes t ht)
    · obtain rfl := List.mem_singleton.1 ht
      exact keepB t hsb
  · intro t ht
    rcases List.mem_append.1 ht with ht | ht
    · exact hown.small t ht
    · obtain rfl := List.mem_singleton.1 ht
      exact hss
theorem step_appS {ops : Array Oper} {o : Oper} {a : Act} {w : World} {K : Act → World → Prop} {Q : Exit → Act → World → Prop} {E : Prop} (hgd : o.guard = none) (x y : Operand)
    (ho : o.op = .call { callee := .builtin .append, args := #[x, y], argTypes := #[57, 57] }) (base : Nat) (v : Value) (ss : List Sg) (hx : a.eval x = v) (hown : OwnSs w base v ss)
    (b c : Nat) (s : Sg) (hy : a.eval y = .slice (some ⟨b, 0, none⟩) 1 c) (hb : w.heap[b]? = some (.cells s.cells.toArray 66 (0, 0))) (hsb : OwnB w base (.slice s.A s.data.length s.cap) s.data)
    (hss : s.addr < 18446744073709551616 ∧ s.size < 18446744073709551616 ∧ s.data.length ≤ 140737488351232) (hlen : ss.length + 1 ≤ 1000) (hbase : base ≤ w.heap.size)
    (h : ∀ v' w', OwnSs w' base v' (ss ++ [s]) → (∀ W, Below base W w → Below base W w') → (∀ g, g < w.heap.size → v.ownBlock ≠ some g → w'.heap[g]? = w.heap[g]?) → K (a.put o.dst v') w') :
    if Region.wanted o (yielded ops a.tmps) = true then Oper.wp Tryz.prog o a w K Q else E := by
  have hcs : Cs w.heap.size w (some ⟨b, 0, none⟩) (scells [s]) := fun i hi => by
    have hi4 : i < 4 := by simpa [scells, Sg.cells] using hi
    refine ⟨b, 0, rfl, lt_of_block hb, ?_⟩
    simp only [World.cell?, hb, Nat.zero_add]
    simp [scells]
  refine step_app hgd x y 57 ho Tryz_elSeg base v ss.length (scells ss) hx hown.row _ (some ⟨b, 0, none⟩) 1 c (scells [s]) hy (by simp [scells, Sg.cells]) hcs (scells_one [s]) (by simp only [maxLen]; omega) (by omega) hbase ?_
  intro v' w' h1 hg hnil hat
  have hk : ∀ g, g < w.heap.size → v.ownBlock ≠ some g → w'.heap[g]? = w.heap[g]? := fun g hg1 hg2 => hg.block g hg1 (fun e => hg2 e.symm)
  exact h v' w' (hown.grow hsb hss h1 hk) (fun W hW => own_below hown.row hW hg hbase) hk

/-- blocks of segments and of bytes are kept. -/
theorem OwnSs.keepT {w w' : World} {base : Nat} {v : Value} {ss : List Sg} (h : OwnSs w base v ss) (hk : ∀ (g : Nat) (cur : Array Value) (t : TypeId), w.heap[g]? = some (Obj.cells cur t (0, 0)) → (t = 66 ∨ t = 5) → w'.heap[g]? = w.heap[g]?) : OwnSs w' base v ss :=
  ⟨h.row.keep fun g hg => by obtain ⟨_, cur, hc⟩ := h.row.block hg; exact hk g cur _ hc (.inl rfl),
   fun s hs => (h.bytes s hs).keep fun g hg => by obtain ⟨_, cur, hc⟩ := (h.bytes s hs).block hg; exact hk g cur _ hc (.inr rfl), h.small⟩
theorem OwnK.block {e : TypeId} {k : IntKind} {w : World} {base : Nat} {v : Value} {l : List Nat} (h : OwnK e k w base v l) {g : Nat} (hg : v.ownBlock = some g) : base ≤ g ∧ ∃ cur, w.heap[g]? = some (.cells cur e (0, 0)) := by
  rcases h.2 with ⟨rfl, _⟩ | ⟨g2, cap, cur, rfl, h1, hh, _⟩
  · cases hg
  · obtain rfl : g2 = g := by simpa [Value.ownBlock] using hg
    exact ⟨h1, cur, hh⟩
/-- a segment that is stored anew. -/
theorem OwnSs.set4 {w : World} {base g cap n : Nat} {ss : List Sg} (h : OwnSs w base (.slice (some ⟨g, 0, none⟩) n cap) ss) (hn : ss.length = n) (k : Nat) (hk : k < n) (s : Sg) (hsb : OwnB w base (.slice s.A s.data.length s.cap) s.data)
    (hss : s.addr < 18446744073709551616 ∧ s.size < 18446744073709551616 ∧ s.data.length ≤ 140737488351232) :
    OwnSs ((((w.setCell ⟨g, k * 4, none⟩ (.int .u64 (s.addr : Int))).setCell ⟨g, k * 4 + 1, none⟩ (.int .i64 s.perm)).setCell ⟨g, k * 4 + 2, none⟩ (.slice s.A s.data.length s.cap)).setCell ⟨g, k * 4 + 3, none⟩ (.int .u64 (s.size : Int))) base
      (.slice (some ⟨g, 0, none⟩) n cap) (ss.set k s) := by
  subst hn
  have h0 := h.row
  unfold OwnS at h0
  have h1 := (h0.stored (k * 4) (.int .u64 (s.addr : Int))).1
  have h2 := (h1.stored (k * 4 + 1) (.int .i64 s.perm)).1
  have h3 := (h2.stored (k * 4 + 2) (.slice s.A s.data.length s.cap)).1
  have h4 := (h3.stored (k * 4 + 3) (.int .u64 (s.size : Int))).1
  rw [scells_set ss k hk s] at h4
  have hkeep : ∀ x, x ≠ g → ((((w.setCell ⟨g, k * 4, none⟩ (.int .u64 (s.addr : Int))).setCell ⟨g, k * 4 + 1, none⟩ (.int .i64 s.perm)).setCell ⟨g, k * 4 + 2, none⟩ (.slice s.A s.data.length s.cap)).setCell ⟨g, k * 4 + 3, none⟩ (.int .u64 (s.size : Int))).heap[x]? = w.heap[x]? := fun x hx => by
    rw [Below.heap_setCell _ _ _ _ hx, Below.heap_setCell _ _ _ _ hx, Below.heap_setCell _ _ _ _ hx, Below.heap_setCell _ _ _ _ hx]
  have keepB : ∀ t : Sg, OwnB w base (.slice t.A t.data.length t.cap) t.data → OwnB ((((w.setCell ⟨g, k * 4, none⟩ (.int .u64 (s.addr : Int))).setCell ⟨g, k * 4 + 1, none⟩ (.int .i64 s.perm)).setCell ⟨g, k * 4 + 2, none⟩ (.slice s.A s.data.length s.cap)).setCell ⟨g, k * 4 + 3, none⟩ (.int .u64 (s.size : Int))) base (.slice t.A t.data.length t.cap) t.data := fun t ht => ht.keep fun x hgb => by
    obtain ⟨_, cur, hc⟩ := ht.block hgb
    refine hkeep x ?_
    rintro rfl
    obtain ⟨_, cur2, hc2⟩ := h.row.block rfl
    rw [hc] at hc2
    cases hc2
  refine ⟨?_, fun t ht => ?_, fun t ht => ?_⟩
  · unfold OwnS; rw [List.length_set]; exact h4
  · rcases List.mem_or_eq_of_mem_set ht with ht | rfl
    · exact keepB t (h.bytes t ht)
    · exact keepB t hsb
  · rcases List.mem_or_eq_of_mem_set ht with ht | rfl
    · exact h.small t ht
    · exact hss
end Go.Proofs

/- elf.Read: the image of a file, or the first place that is wrong. -/
namespace Go.Pat
open Go Go.RowKit

def diffTo (b w : List UInt8) : Nat → Option Nat
  | 0 => none
  | k + 1 => match diffTo b w k with
    | some j => some j
    | none => if b[k]? = w[k]? then none else some k
theorem diffTo_some {b w : List UInt8} {k m j : Nat} (h : diffTo b w k = some j) (hk : k ≤ m) : diffTo b w m = some j := by
  induction m with
  | zero => obtain rfl : k = 0 := by omega
            exact h
  | succ m ih =>
    by_cases e : k = m + 1
    · rw [← e]; exact h
    · rw [diffTo, ih (by omega)]
inductive ReadR where
  | bad (at_ : Nat)
  | good (en : Nat) (ss : List Sgd)
def readE (l : List UInt8) : ReadR :=
  if l.length < 64 then .bad l.length
  else if num l 56 2 < 1 ∨ 8 < num l 56 2 then .bad 56
  else if l.length < 64 + 56 * num l 56 2 then .bad l.length
  else match saysT l (num l 56 2) (num l 56 2) with
    | .none => .bad l.length
    | .some ss _ =>
      if checkE (num l 24 8) ss ≠ 0 then .bad 64
      else match diffTo l (fileB (num l 24 8) ss) (min l.length (fileB (num l 24 8) ss).length) with
        | some k => .bad k
        | none => if l.length ≠ (fileB (num l 24 8) ss).length then .bad (min l.length (fileB (num l 24 8) ss).length) else .good (num l 24 8) ss
end Go.Pat
namespace Go.Proofs
open Go Go.RowKit Go.Pat

/-- what Read tells. -/
def ReadP (w : World) (l : List UInt8) (e : Ending) (w' : World) : Prop :=
  (∃ at_ : Nat, readE l = .bad at_ ∧ e = .returned (.tuple #[.agg #[.int .u64 0, .slice none 0 0], .int .i64 40, .int .i64 at_]) ∧ Below w.heap.size w w') ∨
  (∃ en v gs, readE l = .good en (gs.map Sg.d) ∧ e = .returned (.tuple #[.agg #[.int .u64 (en : Nat), v], .int .i64 0, .int .i64 0]) ∧ OwnSs w' w.heap.size v gs ∧ gs.length ≤ 8 ∧ Below w.heap.size w w')

theorem bdrewR {B : Nat} {a w : World} (h : Below B a w) (n : Nat) : Below B a (w.drewN n) := ⟨h.os, h.tape, h.output, h.size, h.block⟩
theorem two_one (w : World) (x y : Value) : (w.alloc (.cells #[x, y] 59)).heap[w.heap.size]? = some (.cells #[x, y] 59 (0, 0)) := heap_alloc_new w _

end Go.Proofs

/- The plain laws of an image's file: what is written is read, and nothing else. -/
namespace Go.Pat
open Go Go.RowKit

/- the other order of reading a table. -/
def cnts (l : List UInt8) (n : Nat) : List Nat := (List.range n).map (cntK l)
def dataK (l : List UInt8) (n k : Nat) : List UInt8 := (l.drop (plAt (cnts l n) k)).take (cntK l k)
def sayG (l : List UInt8) (n k : Nat) : Sgd := sayS l k (dataK l n k)
theorem cnts_length (l : List UInt8) (n : Nat) : (cnts l n).length = n := by simp [cnts]
theorem cnts_get (l : List UInt8) (n k : Nat) (h : k < n) : (cnts l n)[k]? = some (cntK l k) := by simp [cnts, h]
theorem saysT_is (l : List UInt8) (n : Nat) (h : 64 + 56 * n ≤ l.length) (k : Nat) (hk : k ≤ n) :
    saysT l n k = if endT (cnts l n) k ≤ l.length then .some ((List.range k).map (sayG l n)) (endT (cnts l n) k) else .none := by
  induction k with
  | zero => rw [if_pos (by rw [endT, cnts_length]; exact h), saysT, endT, cnts_length]; rfl
  | succ k ih =>
    have hc := cnts_get l n k (by omega)
    have hm := endT_mono (cnts l n) (show k ≤ k + 1 by omega)
    have he : endT (cnts l n) (k + 1) = if cntK l k = 0 then endT (cnts l n) k else roundN (endT (cnts l n) k) + cntK l k := by rw [endT, hc]
    have hp : plAt (cnts l n) k = if cntK l k = 0 then 0 else roundN (endT (cnts l n) k) := by unfold plAt; rw [hc]
    have ih := ih (by omega)
    by_cases h1 : endT (cnts l n) k ≤ l.length
    · rw [if_pos h1] at ih
      by_cases h0 : cntK l k = 0
      · rw [if_pos h0] at he hp
        rw [saysT_zero ih h0, he, if_pos h1, List.range_succ, List.map_append]
        congr 1
        congr 1
        simp only [List.map_cons, List.map_nil, sayG, dataK, h0, List.take_zero]
      · rw [if_neg h0] at he hp
        by_cases hb : l.length < roundN (endT (cnts l n) k) ∨ l.length - roundN (endT (cnts l n) k) < cntK l k
        · rw [saysT_no ih h0 hb, if_neg (by rw [he]; omega)]
        · rw [saysT_yes ih h0 hb, he, if_pos (by omega), List.range_succ, List.map_append]
          congr 1
          congr 1
          simp only [List.map_cons, List.map_nil, sayG, dataK, hp]
    · rw [if_neg h1] at ih
      rw [saysT_none ih (show k ≤ k + 1 by omega), if_neg (by omega)]

/- numbers at their places. -/
theorem le_get (n v i : Nat) (h : i < n) : (le n v)[i]? = some (UInt8.ofNat (v / 256 ^ i)) := by simp [le, h]
def NumAt (l : List UInt8) (a n v : Nat) : Prop := ∀ i, i < n → l[a + i]? = some (UInt8.ofNat (v / 256 ^ i))
theorem num_at {l : List UInt8} {a n v : Nat} (h : NumAt l a n v) : num l a n = v % 256 ^ n := by
  induction n with
  | zero => simp [num, Nat.mod_one]
  | succ n ih =>
    have h1 := ih (fun i hi => h i (by omega))
    rw [num, h1, List.getD_eq_getElem?_getD, h n (by omega), Nat.mod_pow_succ, Nat.mul_comm (256 ^ n)]
    rfl
theorem num_congr {l m : List UInt8} {a n : Nat} (h : ∀ i, i < n → l[a + i]? = m[a + i]?) : num l a n = num m a n := by
  induction n with
  | zero => rfl
  | succ n ih => rw [num, num, ih (fun i hi => h i (by omega)), List.getD_eq_getElem?_getD, List.getD_eq_getElem?_getD, h n (by omega)]
theorem head_at56 (en n : Nat) : NumAt (headB en n) 56 2 n := fun i hi => by
  match i, hi with
  | 0, _ => rfl
  | 1, _ => rfl
theorem head_at24 (en n : Nat) : NumAt (headB en n) 24 8 en := fun i hi => by
  match i, hi with
  | 0, _ => rfl
  | 1, _ => rfl
  | 2, _ => rfl
  | 3, _ => rfl
  | 4, _ => rfl
  | 5, _ => rfl
  | 6, _ => rfl
  | 7, _ => rfl
theorem row_at4 (addr perm len size at_ : Nat) : NumAt (rowB addr perm len size at_) 4 4 perm := fun i hi => by
  match i, hi with
  | 0, _ => rfl
  | 1, _ => rfl
  | 2, _ => rfl
  | 3, _ => rfl
theorem row_at16 (addr perm len size at_ : Nat) : NumAt (rowB addr perm len size at_) 16 8 addr := fun i hi => by
  match i, hi with
  | 0, _ => rfl
  | 1, _ => rfl
  | 2, _ => rfl
  | 3, _ => rfl
  | 4, _ => rfl
  | 5, _ => rfl
  | 6, _ => rfl
  | 7, _ => rfl
theorem row_at32 (addr perm len size at_ : Nat) : NumAt (rowB addr perm len size at_) 32 8 len := fun i hi => by
  match i, hi with
  | 0, _ => rfl
  | 1, _ => rfl
  | 2, _ => rfl
  | 3, _ => rfl
  | 4, _ => rfl
  | 5, _ => rfl
  | 6, _ => rfl
  | 7, _ => rfl
theorem row_at40 (addr perm len size at_ : Nat) : NumAt (rowB addr perm len size at_) 40 8 size := fun i hi => by
  match i, hi with
  | 0, _ => rfl
  | 1, _ => rfl
  | 2, _ => rfl
  | 3, _ => rfl
  | 4, _ => rfl
  | 5, _ => rfl
  | 6, _ => rfl
  | 7, _ => rfl

/- the file's bytes. -/
def segRow (ss : List Sgd) (k : Nat) (s : Sgd) : List UInt8 := rowB s.addr s.perm.toNat s.data.length s.size (plAt (Go.Pat.dlens ss) k)
theorem dlens_get (ss : List Sgd) (k : Nat) (h : k < ss.length) : (Go.Pat.dlens ss)[k]? = some ss[k].data.length := by simp [Go.Pat.dlens, h]
theorem fileT_step (en : Nat) (ss : List Sgd) (k : Nat) (hk : k < ss.length) (i : Nat) :
    (fileT en ss (k + 1))[i]? = if plAt (Go.Pat.dlens ss) k ≤ i ∧ i < plAt (Go.Pat.dlens ss) k + ss[k].data.length then ss[k].data[i - plAt (Go.Pat.dlens ss) k]? else
      if 64 + 56 * k ≤ i ∧ i < 64 + 56 * k + 56 then (segRow ss k ss[k])[i - (64 + 56 * k)]? else (fileT en ss k)[i]? := by
  have hh := endT_head (Go.Pat.dlens ss) ss.length
  rw [dlens_length] at hh
  have h2 := plAt_fits (Go.Pat.dlens ss) k (dlens_get ss k hk) hk
  have hfl := fileT_length en ss k
  rw [fileT, List.getElem?_eq_getElem hk]
  simp only
  rw [splice_get _ _ _ (by rw [length_splice _ _ _ (by rw [rowB_length, hfl]; omega), hfl]; exact h2), splice_get _ _ _ (by rw [rowB_length, hfl]; omega), rowB_length]
  rfl
theorem plAt_after (ss : List Sgd) (k : Nat) (hk : k < ss.length) (h : ss[k].data.length ≠ 0) : endT (Go.Pat.dlens ss) k ≤ plAt (Go.Pat.dlens ss) k := by
  unfold plAt
  rw [dlens_get ss k hk]
  simp only [if_neg h, roundN]
  omega
theorem fileT_head (en : Nat) (ss : List Sgd) (j : Nat) (hj : j ≤ ss.length) (i : Nat) (hi : i < 64) : (fileT en ss j)[i]? = (headB en ss.length)[i]? := by
  have hh := endT_head (Go.Pat.dlens ss) ss.length
  rw [dlens_length] at hh
  induction j with
  | zero => rw [fileT, splice_get _ _ _ (by rw [headB_length, List.length_replicate]; omega), headB_length, if_pos (by omega), Nat.sub_zero]
  | succ j ih =>
    rw [fileT_step en ss j (by omega), if_neg, if_neg (by omega), ih (by omega)]
    rintro ⟨h1, h2⟩
    have := plAt_head (Go.Pat.dlens ss) j (dlens_get ss j (by omega)) (by omega)
    omega
theorem fileT_row (en : Nat) (ss : List Sgd) (k : Nat) (hk : k < ss.length) (j : Nat) (hj : j ≤ ss.length) (hkj : k < j) (r : Nat) (hr : r < 56) : (fileT en ss j)[64 + 56 * k + r]? = (segRow ss k ss[k])[r]? := by
  induction j with
  | zero => omega
  | succ j ih =>
    have hp : ¬ (plAt (Go.Pat.dlens ss) j ≤ 64 + 56 * k + r ∧ 64 + 56 * k + r < plAt (Go.Pat.dlens ss) j + ss[j].data.length) := by
      rintro ⟨h1, h2⟩
      have := plAt_head (Go.Pat.dlens ss) j (dlens_get ss j (by omega)) (by omega)
      rw [dlens_length] at this
      omega
    rw [fileT_step en ss j (by omega), if_neg hp]
    by_cases e : k = j
    · subst e; rw [if_pos (by omega), Nat.add_sub_cancel_left]
    · rw [if_neg (by omega), ih (by omega) (by omega)]
theorem fileT_data (en : Nat) (ss : List Sgd) (k : Nat) (hk : k < ss.length) (j : Nat) (hj : j ≤ ss.length) (hkj : k < j) (r : Nat) (hr : r < ss[k].data.length) :
    (fileT en ss j)[plAt (Go.Pat.dlens ss) k + r]? = ss[k].data[r]? := by
  induction j with
  | zero => omega
  | succ j ih =>
    rw [fileT_step en ss j (by omega)]
    by_cases e : k = j
    · subst e; rw [if_pos (by omega), Nat.add_sub_cancel_left]
    · have hf := plAt_fits (Go.Pat.dlens ss) k (dlens_get ss k hk) (show k < j by omega)
      have hh := plAt_head (Go.Pat.dlens ss) k (dlens_get ss k hk) (by omega)
      rw [dlens_length] at hh
      have ha := plAt_after ss j (by omega)
      have hd : 64 + 56 * j + 56 ≤ 64 + 56 * ss.length := by omega
      rw [if_neg (by rintro ⟨h1, h2⟩; have := ha (by omega); omega), if_neg (by omega), ih (by omega) (by omega)]

theorem diffTo_self (l : List UInt8) (k : Nat) : diffTo l l k = none := by
  induction k with
  | zero => rfl
  | succ k ih => rw [diffTo, ih]; simp
theorem diffTo_none {b w : List UInt8} {k : Nat} (h : diffTo b w k = none) (i : Nat) (hi : i < k) : b[i]? = w[i]? := by
  induction k with
  | zero => omega
  | succ k ih =>
    rw [diffTo] at h
    cases hd : diffTo b w k with
    | some j => rw [hd] at h; cases h
    | none =>
      rw [hd] at h
      simp only at h
      by_cases e : b[k]? = w[k]?
      · by_cases e2 : i = k
        · rw [e2]; exact e
        · exact ih hd (by omega)
      · rw [if_neg e] at h; cases h

theorem fileB_length (en : Nat) (ss : List Sgd) : (fileB en ss).length = endT (Go.Pat.dlens ss) ss.length := fileT_length en ss ss.length
theorem num_mod {v : Nat} (n : Nat) {x : Nat} (h : x = v % 256 ^ n) (hv : v < 256 ^ n) : x = v := by rw [h, Nat.mod_eq_of_lt hv]

theorem read_file {en : Nat} {ss : List Sgd} (hen : en < 18446744073709551616) (hc : checkE en ss = 0) : readE (fileB en ss) = .good en ss := by
  have hK := check_ok hc
  have h1 := hK.some_
  have h8 := hK.few
  have hl := fileB_length en ss
  have hh := endT_head (Go.Pat.dlens ss) ss.length
  rw [dlens_length] at hh
  have h56 : num (fileB en ss) 56 2 = ss.length := num_mod 2 (num_at fun i hi => by
    unfold fileB; rw [fileT_head en ss _ (Nat.le_refl _) _ (by omega)]; exact head_at56 en ss.length i hi) (by omega)
  have h24 : num (fileB en ss) 24 8 = en := num_mod 8 (num_at fun i hi => by
    unfold fileB; rw [fileT_head en ss _ (Nat.le_refl _) _ (by omega)]; exact head_at24 en ss.length i hi) (Nat.lt_of_lt_of_le hen (by decide))
  have hrow : ∀ k (hk : k < ss.length) a n v, a + n ≤ 56 → NumAt (segRow ss k ss[k]) a n v → v < 256 ^ n → num (fileB en ss) (64 + 56 * k + a) n = v := fun k hk a n v ha hv hlt =>
    num_mod n (num_at fun i hi => by
      unfold fileB
      rw [Nat.add_assoc (64 + 56 * k) a i, fileT_row en ss k hk _ (Nat.le_refl _) hk (a + i) (by omega)]; exact hv i hi) hlt
  have hcnt : ∀ k (hk : k < ss.length), cntK (fileB en ss) k = ss[k].data.length := fun k hk =>
    hrow k hk 32 8 _ (by decide) (row_at32 _ _ _ _ _) (by have := (hK.seg ss[k] (List.getElem_mem hk)).1; exact Nat.lt_of_le_of_lt this (by decide))
  have hcn : cnts (fileB en ss) ss.length = Go.Pat.dlens ss := by
    apply List.ext_getElem?
    intro k
    by_cases hk : k < ss.length
    · rw [cnts_get _ _ _ hk, dlens_get ss k hk, hcnt k hk]
    · rw [List.getElem?_eq_none (by rw [cnts_length]; omega), List.getElem?_eq_none (by rw [dlens_length]; omega)]
  have hsay : (List.range ss.length).map (sayG (fileB en ss) ss.length) = ss := by
    apply List.ext_getElem?
    intro k
    by_cases hk : k < ss.length
    · rw [List.getElem?_map, List.getElem?_range hk, List.getElem?_eq_getElem hk, Option.map_some]
      congr 1
      have hseg := hK.seg ss[k] (List.getElem_mem hk)
      have hf := okT_at hK.ok k hk hk
      have hd : dataK (fileB en ss) ss.length k = ss[k].data := by
        unfold dataK
        rw [hcn, hcnt k hk]
        apply List.ext_getElem?
        intro r
        rw [List.getElem?_take, List.getElem?_drop]
        by_cases hr : r < ss[k].data.length
        · rw [if_pos hr]; exact fileT_data en ss k hk _ (Nat.le_refl _) hk r hr
        · rw [if_neg hr, List.getElem?_eq_none (by omega)]
      unfold sayG sayS
      rw [hd, hrow k hk 16 8 ss[k].addr (by decide) (row_at16 _ _ _ _ _) (by have := hf.top; omega), hrow k hk 4 4 ss[k].perm.toNat (by decide) (row_at4 _ _ _ _ _) (by omega),
        hrow k hk 40 8 ss[k].size (by decide) (row_at40 _ _ _ _ _) (by have := hf.most; omega), Int.toNat_of_nonneg hseg.2.1]
    · rw [List.getElem?_eq_none (by simp; omega), List.getElem?_eq_none (by omega)]
  unfold readE
  rw [h56, if_neg (by omega), if_neg (by omega), if_neg (by omega), saysT_is _ _ (by omega) _ (Nat.le_refl _), hcn, if_pos (by rw [hl]; exact Nat.le_refl _), hsay]
  simp only
  rw [h24, if_neg (by rw [hc]; simp), diffTo_self, if_neg (by simp)]

structure GoodRead (l : List UInt8) (en : Nat) (ss : List Sgd) : Prop where
  check : checkE en ss = 0
  file : fileB en ss = l
  en : en = num l 24 8
  head : 64 ≤ l.length
  some_ : 1 ≤ num l 56 2
  few : num l 56 2 ≤ 8
  rows : 64 + 56 * num l 56 2 ≤ l.length
  len : l.length = endT (cnts l (num l 56 2)) (num l 56 2)
theorem read_good {l : List UInt8} {en : Nat} {ss : List Sgd} (h : readE l = .good en ss) : GoodRead l en ss := by
  unfold readE at h
  by_cases c1 : l.length < 64
  · rw [if_pos c1] at h; cases h
  rw [if_neg c1] at h
  by_cases c2 : num l 56 2 < 1 ∨ 8 < num l 56 2
  · rw [if_pos c2] at h; cases h
  rw [if_neg c2] at h
  by_cases c3 : l.length < 64 + 56 * num l 56 2
  · rw [if_pos c3] at h; cases h
  rw [if_neg c3, saysT_is _ _ (by omega) _ (Nat.le_refl _)] at h
  by_cases c4 : endT (cnts l (num l 56 2)) (num l 56 2) ≤ l.length
  · rw [if_pos c4] at h
    simp only at h
    by_cases c5 : checkE (num l 24 8) ((List.range (num l 56 2)).map (sayG l (num l 56 2))) ≠ 0
    · rw [if_pos c5] at h; cases h
    rw [if_neg c5] at h
    cases hd : diffTo l (fileB (num l 24 8) ((List.range (num l 56 2)).map (sayG l (num l 56 2)))) (min l.length (fileB (num l 24 8) ((List.range (num l 56 2)).map (sayG l (num l 56 2)))).length) with
    | some k => rw [hd] at h; cases h
    | none =>
      rw [hd] at h
      simp only at h
      by_cases c6 : l.length ≠ (fileB (num l 24 8) ((List.range (num l 56 2)).map (sayG l (num l 56 2)))).length
      · rw [if_pos c6] at h; cases h
      rw [if_neg c6] at h
      have c6 : l.length = (fileB (num l 24 8) ((List.range (num l 56 2)).map (sayG l (num l 56 2)))).length := by omega
      simp only [ReadR.good.injEq] at h
      obtain ⟨rfl, rfl⟩ := h
      have hlens : Go.Pat.dlens ((List.range (num l 56 2)).map (sayG l (num l 56 2))) = cnts l (num l 56 2) := by
        apply List.ext_getElem?
        intro k
        by_cases hk : k < num l 56 2
        · have hf := plAt_fits (cnts l (num l 56 2)) k (cnts_get l _ k hk) hk
          rw [cnts_get l _ k hk]
          simp only [Go.Pat.dlens, List.getElem?_map, List.getElem?_range hk, Option.map_some, sayG, sayS, dataK, List.length_take, List.length_drop]
          congr 1
          omega
        · rw [List.getElem?_eq_none (by simp [Go.Pat.dlens]; omega), List.getElem?_eq_none (by rw [cnts_length]; omega)]
      refine ⟨by omega, ?_, rfl, by omega, by omega, by omega, by omega, ?_⟩
      · apply List.ext_getElem?
        intro i
        by_cases hi : i < l.length
        · exact (diffTo_none hd i (by omega)).symm
        · rw [List.getElem?_eq_none (by omega), List.getElem?_eq_none (by omega)]
      · rw [fileB_length, hlens, List.length_map, List.length_range] at c6
        exact c6
  · rw [if_neg c4] at h
    cases h

/-- bytes that begin alike are not both files, but they are as long. -/
theorem read_alike {l m : List UInt8} {en en2 : Nat} {ss ss2 : List Sgd} (h : readE l = .good en ss) (h2 : readE m = .good en2 ss2) (ha : ∀ i, i < l.length → i < m.length → l[i]? = m[i]?) : l.length = m.length := by
  have g := read_good h
  have g2 := read_good h2
  have hd := g.head
  have hd2 := g2.head
  have hn : num l 56 2 = num m 56 2 := num_congr fun i hi => ha _ (by omega) (by omega)
  have hr := g.rows
  have hr2 := g2.rows
  rw [← hn] at hr2
  have hc : cnts l (num l 56 2) = cnts m (num l 56 2) := by
    unfold cnts
    refine List.map_congr_left fun k hk => ?_
    have hk := List.mem_range.1 hk
    exact num_congr fun i hi => ha _ (by omega) (by omega)
  rw [g.len, g2.len, ← hn, hc]
/-- a file whose first byte is wrong. -/
theorem read_zero {en : Nat} {ss : List Sgd} (hen : en < 18446744073709551616) (hc : checkE en ss = 0) : readE ((fileB en ss).set 0 0) = .bad 0 := by
  have hg := read_file hen hc
  have hG := read_good hg
  have hh := hG.head
  have h8 := hG.few
  have h1 := hG.some_
  have hr := hG.rows
  have hsame : ∀ i, 1 ≤ i → ((fileB en ss).set 0 0)[i]? = (fileB en ss)[i]? := fun i hi => by rw [List.getElem?_set_ne (by omega)]
  have hnum : ∀ a k, 1 ≤ a → num ((fileB en ss).set 0 0) a k = num (fileB en ss) a k := fun a k ha => num_congr fun i _ => hsame _ (by omega)
  have hlen : ((fileB en ss).set 0 0).length = (fileB en ss).length := List.length_set ..
  have hcn : cnts ((fileB en ss).set 0 0) (num (fileB en ss) 56 2) = cnts (fileB en ss) (num (fileB en ss) 56 2) := by
    unfold cnts
    exact List.map_congr_left fun k _ => hnum _ _ (by omega)
  have hs : saysT ((fileB en ss).set 0 0) (num (fileB en ss) 56 2) (num (fileB en ss) 56 2) = saysT (fileB en ss) (num (fileB en ss) 56 2) (num (fileB en ss) 56 2) := by
    rw [saysT_is _ _ (by omega) _ (Nat.le_refl _), saysT_is _ _ (by omega) _ (Nat.le_refl _), hcn, hlen]
    have : (List.range (num (fileB en ss) 56 2)).map (sayG ((fileB en ss).set 0 0) (num (fileB en ss) 56 2)) = (List.range (num (fileB en ss) 56 2)).map (sayG (fileB en ss) (num (fileB en ss) 56 2)) := by
      refine List.map_congr_left fun k hk => ?_
      have hk := List.mem_range.1 hk
      have hd : dataK ((fileB en ss).set 0 0) (num (fileB en ss) 56 2) k = dataK (fileB en ss) (num (fileB en ss) 56 2) k := by
        unfold dataK
        rw [hcn, show cntK ((fileB en ss).set 0 0) k = cntK (fileB en ss) k from hnum _ _ (by omega)]
        by_cases h0 : cntK (fileB en ss) k = 0
        · rw [h0, List.take_zero, List.take_zero]
        · have hp := plAt_head (cnts (fileB en ss) (num (fileB en ss) 56 2)) k (cnts_get _ _ k hk) h0
          congr 1
          apply List.ext_getElem?
          intro i
          rw [List.getElem?_drop, List.getElem?_drop]
          exact hsame _ (by omega)
      unfold sayG sayS
      rw [hd, hnum _ _ (by omega), hnum _ _ (by omega), hnum _ _ (by omega)]
    rw [this]
  have hd0 : diffTo ((fileB en ss).set 0 0) (fileB en ss) 1 = some 0 := by
    have h0 : ((fileB en ss).set 0 0)[0]? = some 0 := by rw [List.getElem?_set_self (by omega)]
    have h1 : (fileB en ss)[0]? = some 127 := by unfold fileB; rw [fileT_head en ss _ (Nat.le_refl _) 0 (by omega)]; rfl
    simp only [diffTo]
    rw [h0, h1]
    rfl
  unfold readE at hg ⊢
  rw [hlen, hnum 56 2 (by omega), hnum 24 8 (by omega), hs]
  rw [if_neg (by omega), if_neg (by omega), if_neg (by omega)]
  rw [if_neg (by omega), if_neg (by omega), if_neg (by omega)] at hg
  cases hT : saysT (fileB en ss) (num (fileB en ss) 56 2) (num (fileB en ss) 56 2) with
  | none => rw [hT] at hg; cases hg
  | some s2 e =>
    rw [hT] at hg
    simp only at hg ⊢
    by_cases c5 : checkE (num (fileB en ss) 24 8) s2 ≠ 0
    · rw [if_pos c5] at hg; cases hg
    rw [if_neg c5] at hg ⊢
    cases hd : diffTo (fileB en ss) (fileB (num (fileB en ss) 24 8) s2) (min (fileB en ss).length (fileB (num (fileB en ss) 24 8) s2).length) with
    | some k => rw [hd] at hg; cases hg
    | none =>
      rw [hd] at hg
      simp only at hg
      by_cases c6 : (fileB en ss).length ≠ (fileB (num (fileB en ss) 24 8) s2).length
      · rw [if_pos c6] at hg; cases hg
      rw [if_neg c6] at hg
      simp only [ReadR.good.injEq] at hg
      obtain ⟨e1, rfl⟩ := hg
      rw [e1, diffTo_some hd0 (by omega)]
end Go.Pat
