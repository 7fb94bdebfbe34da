/- asm.Assemble: what it makes of items (plain). -/
import Derived.Test.YtlhenglopnipaaaGreatDoorItemA
import Derived.Test.YtlhenglopnipaaaGreatDoorLiA
import Derived.Test.YtlhenglopnipaaaGreatDoorFitsA
import Derived.Test.YtlhenglopnipaaaGreatDoorEnc
namespace Go.Pat
open Go Go.RowKit Go.Proofs
abbrev Names := List UInt8 → Option Nat
def Names.upd (F : Names) (s : ByteArray) (v : Nat) : Names := fun l => if l = s.data.toList then some v else F l
/-- the first round over the items: what is wrong, and with which; or the labels. -/
def chk1 (tl : Nat) : Nat → List It → Names → (Int × Nat) ⊕ Names
  | _, [], F => .inr F
  | n, x :: r, F =>
    if itemE x (decide (tl ≤ n)) = 0 then
      if x.k = 1 then (if (F x.s.data.toList).isSome then .inl (51, n) else chk1 tl (n + 1) r (F.upd x.s 0)) else chk1 tl (n + 1) r F
    else .inl (itemE x (decide (tl ≤ n)), n)
/-- the second round: a name that is no label's. -/
def chk2 (F : Names) : Nat → List It → Option Nat
  | _, [] => none
  | n, x :: r => if x.s.toList ≠ [] ∧ (F x.s.data.toList).isSome = false then some n else chk2 F (n + 1) r
def begM (text data : List It) (at_ dat : Nat) : (Int × Nat) ⊕ Names :=
  if at_ % 4 ≠ 0 ∨ dat % 8 ≠ 0 ∨ 1099511627776 < at_ ∨ 1099511627776 < dat then .inl (1, 0)
  else if 1048576 < text.length ∨ 1048576 - text.length < data.length then .inl (2, 0)
  else match chk1 text.length 0 (text ++ data) (fun _ => none) with
    | .inl e => .inl e
    | .inr F => match chk2 F 0 text with
      | some n => .inl (50, n)
      | none => .inr F
/-- addresses for labels. -/
def layL : List (It × Int) → Nat → Names → Names
  | [], _, F => F
  | x :: r, at_, F => layL r (wrN ((at_ : Int) + x.2)) (if x.1.k = 1 then F.upd x.1.s at_ else F)
def layM (text data : List It) (S : List Int) (at_ dat : Nat) (F : Names) : Names :=
  layL (data.map fun x => (x, leastM x)) dat (layL (text.zip S) at_ F)
/-- longer items where labels aren't reached. -/
def nexts (F : Names) : Nat → List (It × Int) → List Int
  | _, [] => []
  | at_, x :: r => (if fitsM x.1.k x.2 (distM F x.1.s at_) then x.2 else x.2 + 4) :: nexts F (wrN ((at_ : Int) + x.2)) r
def nextM (text data : List It) (at_ dat : Nat) (F0 : Names) (S : List Int) : List Int := nexts (layM text data S at_ dat F0) at_ (text.zip S)
/-- an item's instructions. -/
def jumpM (rd link d : Int) : List In × Bool := ([⟨2, link, 0, 0, farH d⟩, ⟨4, rd, link, 0, restI d⟩], farB d)
def codeM (x : It) (size d : Int) : List In × Bool :=
  if (x.k = 5 ∨ x.k = 6 ∨ x.k = 7) ∧ d % 2 ≠ 0 then ([], false)
  else if x.k = 2 then ([⟨x.op, x.rd, x.a, x.b, x.n⟩], true)
  else if x.k = 3 then (liL x.rd x.n, true)
  else if x.k = 4 then ([⟨2, x.rd, 0, 0, farH d⟩, ⟨22, x.rd, x.rd, 0, restI d⟩], farB d)
  else if x.k = 5 ∨ x.k = 6 then
    if size = 4 then ([⟨3, x.rd, 0, 0, d⟩], true) else if x.k = 5 then jumpM 0 6 d else jumpM x.rd x.rd d
  else if x.k = 7 then
    if size = 4 then ([⟨x.op, x.rd, x.a, x.b, d⟩], true)
    else if size = 8 then ([⟨turnM x.op, x.rd, x.a, x.b, size⟩, ⟨3, 0, 0, 0, wrap64 (d - 4)⟩], true)
    else (⟨turnM x.op, x.rd, x.a, x.b, size⟩ :: (jumpM 0 6 (wrap64 (d - 4))).1, (jumpM 0 6 (wrap64 (d - 4))).2)
  else ([], true)
def insB : List In → List UInt8
  | [] => []
  | i :: r => le 4 (encZ i.op i.rd i.a i.b i.n) ++ insB r
theorem insB_append (a b : List In) : insB (a ++ b) = insB a ++ insB b := by
  induction a with
  | nil => rfl
  | cons i r ih => simp [insB, ih]
def bytM (F : Names) : Nat → Nat → List (It × Int) → List UInt8 → Nat ⊕ List UInt8
  | _, _, [], out => .inr out
  | n, at_, x :: r, out =>
    if (codeM x.1 x.2 (distM F x.1.s at_)).2 then bytM F (n + 1) (wrN ((at_ : Int) + x.2)) r (out ++ (insB (codeM x.1 x.2 (distM F x.1.s at_)).1 ++ rawM x.1)) else .inl n
def dataM : List It → List UInt8
  | [] => []
  | x :: r => rawM x ++ dataM r
def labsM (F : Names) : List It → List Lab
  | [] => []
  | x :: r => if x.k = 1 then (x.s, (F x.s.data.toList).getD 0) :: labsM F r else labsM F r
end Go.Pat

/- asm.Assemble: laws of what it makes (plain). -/
namespace Go.Pat
open Go Go.RowKit Go.Proofs
/-- the address that addresses for labels give to a name. -/
def layV : List (It × Int) → Nat → List UInt8 → Option Nat
  | [], _, _ => none
  | x :: r, at_, l => match layV r (wrN ((at_ : Int) + x.2)) l with
    | some v => some v
    | none => if x.1.k = 1 ∧ l = x.1.s.data.toList then some at_ else none
theorem layL_is (xs : List (It × Int)) (at_ : Nat) (F : Names) (l : List UInt8) : layL xs at_ F l = match layV xs at_ l with | some v => some v | none => F l := by
  induction xs generalizing at_ F with
  | nil => rfl
  | cons x r ih =>
    rw [layL, layV, ih]
    cases h : layV r (wrN ((at_ : Int) + x.2)) l with
    | some v => rfl
    | none =>
      simp only
      by_cases hk : x.1.k = 1
      · by_cases hl : l = x.1.s.data.toList
        · simp [hk, hl, Names.upd]
        · simp [hk, hl, Names.upd]
      · simp [hk]
theorem layV_some {xs : List (It × Int)} {at_ : Nat} {l : List UInt8} : (layV xs at_ l).isSome = true ↔ ∃ x ∈ xs, x.1.k = 1 ∧ l = x.1.s.data.toList := by
  induction xs generalizing at_ with
  | nil => simp [layV]
  | cons x r ih =>
    rw [layV]
    have ih2 := @ih (wrN ((at_ : Int) + x.2))
    cases h : layV r (wrN ((at_ : Int) + x.2)) l with
    | some v =>
      rw [h] at ih2
      obtain ⟨y, hy, h2⟩ := ih2.1 rfl
      simp only [Option.isSome_some, List.mem_cons, true_iff]
      exact ⟨y, .inr hy, h2⟩
    | none =>
      rw [h] at ih2
      simp only [List.mem_cons]
      by_cases hx : x.1.k = 1 ∧ l = x.1.s.data.toList
      · rw [if_pos hx]
        exact ⟨fun _ => ⟨x, .inl rfl, hx⟩, fun _ => rfl⟩
      · rw [if_neg hx]
        refine ⟨fun h0 => (by cases h0), ?_⟩
        rintro ⟨y, rfl | hy, h2⟩
        · exact absurd h2 hx
        · exact absurd (ih2.2 ⟨y, hy, h2⟩) (by simp)
/-- is a name a label's? -/
def isLab (xs : List It) (l : List UInt8) : Prop := ∃ x ∈ xs, x.k = 1 ∧ l = x.s.data.toList
theorem lay_zip {text : List It} {S : List Int} (h : S.length = text.length) (at_ : Nat) (l : List UInt8) : (layV (text.zip S) at_ l).isSome = true ↔ isLab text l := by
  rw [layV_some]
  constructor
  · rintro ⟨x, hx, h2⟩
    exact ⟨x.1, (List.of_mem_zip hx).1, h2⟩
  · rintro ⟨x, hx, h2⟩
    obtain ⟨i, hi, rfl⟩ := List.mem_iff_getElem.1 hx
    exact ⟨(text[i], S[i]), List.mem_iff_getElem.2 ⟨i, by simp; omega, by simp⟩, h2⟩
theorem lay_map {data : List It} (dat : Nat) (l : List UInt8) : (layV (data.map fun x => (x, leastM x)) dat l).isSome = true ↔ isLab data l := by
  rw [layV_some]
  constructor
  · rintro ⟨x, hx, h2⟩
    obtain ⟨y, hy, rfl⟩ := List.mem_map.1 hx
    exact ⟨y, hy, h2⟩
  · rintro ⟨x, hx, h2⟩
    exact ⟨_, List.mem_map.2 ⟨x, hx, rfl⟩, h2⟩
/-- addresses given anew: what was before is gone. -/
theorem layM_again {text data : List It} {S S2 : List Int} (h : S.length = text.length) (h2 : S2.length = text.length) (at_ dat : Nat) (F : Names) : layM text data S at_ dat (layM text data S2 at_ dat F) = layM text data S at_ dat F := by
  funext l
  unfold layM
  simp only [layL_is]
  cases e1 : layV (data.map fun x => (x, leastM x)) dat l with
  | some v => rfl
  | none =>
    simp only
    cases e3 : layV (text.zip S) at_ l with
    | some v => rfl
    | none =>
      simp only
      have hn : ¬ (layV (text.zip S2) at_ l).isSome = true := fun h0 => by
        have h4 := (lay_zip h at_ l).2 ((lay_zip h2 at_ l).1 h0)
        rw [e3] at h4
        cases h4
      cases e4 : layV (text.zip S2) at_ l with
      | some v => rw [e4] at hn; exact absurd rfl hn
      | none => rfl
theorem nexts_length (F : Names) (at_ : Nat) (l : List (It × Int)) : (nexts F at_ l).length = l.length := by
  induction l generalizing at_ with
  | nil => rfl
  | cons x r ih => simp [nexts, ih]
theorem nextM_length (text data : List It) (at_ dat : Nat) (F0 : Names) (S : List Int) (h : S.length = text.length) : (nextM text data at_ dat F0 S).length = text.length := by
  unfold nextM
  rw [nexts_length]
  simp
  omega
/-- how many times an item may become longer. -/
def roomI (k s : Int) : Nat := if k = 5 ∨ k = 6 then (if s = 4 then 1 else 0) else if k = 7 then (if s = 4 then 2 else if s = 8 then 1 else 0) else 0
def roomL : List (It × Int) → Nat
  | [] => 0
  | x :: r => roomI x.1.k x.2 + roomL r
theorem room_step (k s d : Int) (h : fitsM k s d = false) : (s = 4 ∨ s = 8) ∧ roomI k (s + 4) + 1 = roomI k s := by
  unfold fitsM at h
  unfold roomI
  by_cases h7 : k = 7
  · subst h7
    by_cases h4 : s = 4
    · subst h4
      refine ⟨.inl rfl, ?_⟩
      simp
    · by_cases h8 : s = 8
      · subst h8
        exact ⟨.inr rfl, by simp⟩
      · simp [h4, h8] at h
  · by_cases h5 : k = 5 ∨ k = 6
    · by_cases h4 : s = 4
      · subst h4
        exact ⟨.inl rfl, by simp [h5]⟩
      · simp [h7, h4] at h
    · rw [if_neg (fun c => h7 c.1), if_neg (fun c => h7 c.1), if_neg (fun c => h5 c.1)] at h
      cases h
theorem roomL_le (l : List (It × Int)) : roomL l ≤ 2 * l.length := by
  induction l with
  | nil => exact Nat.le_refl _
  | cons x r ih =>
    have h1 : roomI x.1.k x.2 ≤ 2 := by
      unfold roomI
      split
      · split <;> decide
      · split
        · split
          · decide
          · split <;> decide
        · decide
    rw [roomL, List.length_cons]
    omega
end Go.Pat

/- asm.Assemble: a program's parts in memory, slices of numbers and of labels of the call's own. -/
namespace Go.Pat
open Go Go.RowKit
def zcells (l : List Int) : List Value := l.map (Value.int .i64)
theorem zcells_length (l : List Int) : (zcells l).length = l.length := List.length_map _
theorem zcells_append (a b : List Int) : zcells (a ++ b) = zcells a ++ zcells b := List.map_append
theorem zcells_one (l : List Int) : ∀ u ∈ zcells l, u.oneCell' = true := fun u hu => by
  obtain ⟨z, _, rfl⟩ := List.mem_map.1 hu
  rfl
theorem TzTab.belowB {B : Nat} {W W' : World} (h : TzTab W) (hB : 1 < B) (hb : Below B W W') : TzTab W' :=
  ⟨Nat.lt_of_lt_of_le h.1 hb.size, fun j hj => (hb.cell (p := ⟨1, _, none⟩) hB).trans (h.2 j hj)⟩
theorem RvRows.belowB {B : Nat} {W W' : World} (h : RvRows W) (hB : 0 < B) (hb : Below B W W') : RvRows W' :=
  ⟨Nat.lt_of_lt_of_le h.1 hb.size, fun op ho j v hv => (hb.cell (p := ⟨0, _, none⟩) hB).trans (h.2 op ho j v hv)⟩
end Go.Pat
namespace Go.Proofs
open Go Go.RowKit Go.Pat
theorem Tryz_elInts : ElT Tryz.prog 43 3 (.int .i64 0) 1 8 := ⟨Tryz.underlying43, by kernel_rfl, rfl, by decide⟩
theorem Tryz_elLabs : ElT Tryz.prog 51 88 (.agg #[.string no, .int .u64 0]) 2 24 := ⟨Tryz.underlying51, by kernel_rfl, rfl, by decide⟩
section
variable {w w' : World} {base n size : Nat} {e : TypeId} {v : Value} {xs : List Value}
theorem owns_keep (h : w.ownsRow base e size v n xs) (hb : ∀ g, v.ownBlock = some g → w'.heap[g]? = w.heap[g]?) : w'.ownsRow base e size v n xs := by
  refine ⟨h.1, ?_⟩
  rcases h.2 with h0 | ⟨g, cap, cur, rfl, hg, hh, r⟩
  · exact .inl h0
  · exact .inr ⟨g, cap, cur, rfl, hg, (hb g rfl).trans hh, r⟩
theorem owns_below (h : w.ownsRow base e size v n xs) (hb : Below w.heap.size w w') : w'.ownsRow base e size v n xs := owns_keep h fun g hg => hb.block g (h.lt g hg).2
theorem owns_base {b2 : Nat} (h : w.ownsRow base e size v n xs) (hb : b2 ≤ base) : w.ownsRow b2 e size v n xs := by
  refine ⟨h.1, ?_⟩
  rcases h.2 with h0 | ⟨g, cap, cur, e2, hg, r⟩
  · exact .inl h0
  · exact .inr ⟨g, cap, cur, e2, Nat.le_trans hb hg, r⟩
theorem owns_block (h : w.ownsRow base e size v n xs) {g : Nat} (hg : v.ownBlock = some g) : base ≤ g ∧ ∃ cur, w.heap[g]? = some (.cells cur e (0, 0)) := by
  rcases h.2 with ⟨rfl, _⟩ | ⟨g2, cap, cur, rfl, h1, hh, _⟩
  · cases hg
  · obtain rfl : g2 = g := by simpa [Value.ownBlock] using hg
    exact ⟨h1, cur, hh⟩
end
def OwnZ (w : World) (base : Nat) (v : Value) (l : List Int) : Prop := w.ownsRow base 3 1 v l.length (zcells l)
def OwnL (w : World) (base : Nat) (v : Value) (l : List Lab) : Prop := w.ownsRow base 88 2 v l.length (lcells l)
theorem OwnZ.form {w : World} {base : Nat} {v : Value} {l : List Int} (h : OwnZ w base v l) : ∃ A c, v = .slice A l.length c ∧ Cs w.heap.size w A (zcells l) := by
  rcases h.2 with ⟨rfl, h0⟩ | ⟨g, cap, cur, rfl, _, hh, hn, hm, hc, ht⟩
  · exact ⟨none, 0, by rw [h0], fun i hi => by rw [zcells_length] at hi; omega⟩
  · exact ⟨_, cap, rfl, Cs.of_own (c := cap) h⟩
theorem OwnL.form {w : World} {base : Nat} {v : Value} {l : List Lab} (h : OwnL w base v l) : ∃ A c, v = .slice A l.length c ∧ Cs w.heap.size w A (lcells l) := by
  rcases h.2 with ⟨rfl, h0⟩ | ⟨g, cap, cur, rfl, _, hh, hn, hm, hc, ht⟩
  · exact ⟨none, 0, by rw [h0], fun i hi => by rw [lcells_length] at hi; omega⟩
  · exact ⟨_, cap, rfl, Cs.of_own (c := cap) h⟩
theorem OwnZ.nil (w : World) (base : Nat) : OwnZ w base (.slice none 0 0) [] := ⟨rfl, .inl ⟨rfl, rfl⟩⟩
theorem OwnL.nil (w : World) (base : Nat) : OwnL w base (.slice none 0 0) [] := ⟨rfl, .inl ⟨rfl, rfl⟩⟩
theorem wpList_appZ {ops : Array Oper} {rest : List Oper} {o : Oper} {a : Act} {Q : Exit → Act → World → Prop} (w : World) (hgd : o.guard = none) (x y : Operand)
    (ho : o.op = .call { callee := .builtin .append, args := #[x, y], argTypes := #[43, 43] }) (base : Nat) (v : Value) (l : List Int) (hx : a.eval x = v) (hown : OwnZ w base v l)
    (B : Nat) (A : Option Addr) (m c : Nat) (news : List Int) (hy : a.eval y = .slice A m c) (hm : news.length = m) (hr : Cs B w A (zcells news)) (hlen : l.length + m ≤ 1000000000) (hbase : base ≤ w.heap.size)
    (h : ∀ v' w', OwnZ w' base v' (l ++ news) → (∀ W, Below base W w → Below base W w') → (∀ g, g < w.heap.size → v.ownBlock ≠ some g → w'.heap[g]? = w.heap[g]?) → NewOr w v v' → w.heap.size ≤ w'.heap.size → wpList Tryz.prog ops Q rest (a.put o.dst v') w') :
    wpList Tryz.prog ops Q (o :: rest) a w := by
  refine wpList_app w hgd x y 43 ho Tryz_elInts base v l.length (zcells l) hx hown _ A m c (zcells news) hy (by rw [zcells_length, hm, Nat.mul_one]) hr (zcells_one news) (by simp only [maxLen]; omega) (by omega) hbase ?_
  intro v' w' h1 hg hnil hat
  refine h v' w' ?_ (fun W hW => own_below hown hW hg hbase) (fun g hg1 hg2 => hg.block g hg1 (fun e => hg2 e.symm)) (fun g hg3 => ?_) hg.size
  · unfold OwnZ
    rw [List.length_append, hm, zcells_append]
    exact h1
  · rcases hat with h2 | h2
    · exact .inl (h2 ▸ hg3)
    · rw [h2] at hg3
      exact .inr (by have := Option.some.inj hg3; omega)
theorem wpList_appL {ops : Array Oper} {rest : List Oper} {o : Oper} {a : Act} {Q : Exit → Act → World → Prop} (w : World) (hgd : o.guard = none) (x y : Operand)
    (ho : o.op = .call { callee := .builtin .append, args := #[x, y], argTypes := #[51, 51] }) (base : Nat) (v : Value) (l : List Lab) (hx : a.eval x = v) (hown : OwnL w base v l)
    (B : Nat) (A : Option Addr) (m c : Nat) (news : List Lab) (hy : a.eval y = .slice A m c) (hm : news.length = m) (hr : Cs B w A (lcells news)) (hlen : l.length + m ≤ 1000000000) (hbase : base ≤ w.heap.size)
    (h : ∀ v' w', OwnL w' base v' (l ++ news) → (∀ W, Below base W w → Below base W w') → (∀ g, g < w.heap.size → v.ownBlock ≠ some g → w'.heap[g]? = w.heap[g]?) → NewOr w v v' → w.heap.size ≤ w'.heap.size → wpList Tryz.prog ops Q rest (a.put o.dst v') w') :
    wpList Tryz.prog ops Q (o :: rest) a w := by
  refine wpList_app w hgd x y 51 ho Tryz_elLabs base v l.length (lcells l) hx hown _ A m c (lcells news) hy (by rw [lcells_length, hm]) hr (lcells_one news) (by simp only [maxLen]; omega) (by omega) hbase ?_
  intro v' w' h1 hg hnil hat
  refine h v' w' ?_ (fun W hW => own_below hown hW hg hbase) (fun g hg1 hg2 => hg.block g hg1 (fun e => hg2 e.symm)) (fun g hg3 => ?_) hg.size
  · unfold OwnL
    rw [List.length_append, hm, lcells_append]
    exact h1
  · rcases hat with h2 | h2
    · exact .inl (h2 ▸ hg3)
    · rw [h2] at hg3
      exact .inr (by have := Option.some.inj hg3; omega)
/-- a program's parts, all but the items of the call's own. -/
structure Pm (B : Nat) (w : World) (p : Nat) (TA : Option Addr) (tc : Nat) (text : List It) (DA : Option Addr) (dc : Nat) (data : List It) (at_ dat mb nm : Nat) (F : Names) (sv : Value) (S : List Int) : Prop where
  pr : PrAt w p TA tc text DA dc data at_ dat mb sv
  tx : Cs B w TA (tcells text)
  dt : Cs B w DA (tcells data)
  hp : B ≤ p
  hm : B ≤ mb
  map : SMap w mb nm F
  szs : OwnZ w B sv S
  tz : TzTab w
  tb : 1 < B
  rv : RvRows w
  rb : 0 < B
theorem SMap.block {w : World} {b n : Nat} {F : Names} (h : SMap w b n F) : ∃ es c, w.heap[b]? = some (.map es c) := by
  obtain ⟨D, ⟨es, clock, hb, r⟩, h2⟩ := h
  exact ⟨_, _, hb⟩
section
variable {B : Nat} {w w' : World} {p : Nat} {TA : Option Addr} {tc : Nat} {text : List It} {DA : Option Addr} {dc : Nat} {data : List It} {at_ dat mb nm : Nat} {F : Names} {sv : Value} {S : List Int}
theorem Pm.lt (h : Pm B w p TA tc text DA dc data at_ dat mb nm F sv S) : p < w.heap.size := lt_of_block h.pr.str
theorem Pm.le (h : Pm B w p TA tc text DA dc data at_ dat mb nm F sv S) : B ≤ w.heap.size := Nat.le_trans h.hp (Nat.le_of_lt h.lt)
theorem Pm.keep (h : Pm B w p TA tc text DA dc data at_ dat mb nm F sv S) (hb : Below w.heap.size w w') : Pm B w' p TA tc text DA dc data at_ dat mb nm F sv S :=
  ⟨h.pr.below hb, h.tx.below (hb.mono h.le), h.dt.below (hb.mono h.le), h.hp, h.hm, h.map.below hb, owns_below h.szs hb, h.tz.below hb, h.tb, h.rv.below hb, h.rb⟩
theorem Pm.tx2 (h : Pm B w p TA tc text DA dc data at_ dat mb nm F sv S) : Cs w.heap.size w TA (tcells text) := h.pr.tx
theorem Pm.le_alloc (h : Pm B w p TA tc text DA dc data at_ dat mb nm F sv S) (o : Obj) : Below B w (w.alloc o) := (Below.refl _ _).alloc h.le _
theorem Pm.size_at {A : Option Addr} {n c : Nat} (h : Pm B w p TA tc text DA dc data at_ dat mb nm F (.slice A n c) S) (k : Nat) (hk : k < S.length) :
    ∃ b o, A = some ⟨b, o, none⟩ ∧ b < w.heap.size ∧ w.cell? ⟨b, o + k, none⟩ = some (.int .i64 S[k]) := by
  obtain ⟨A1, c1, e1, hS1⟩ := h.szs.form
  cases e1
  obtain ⟨b2, o2, rfl, hb2, y0⟩ := hS1 k (by rw [zcells_length]; exact hk)
  simp only [zcells, List.getElem_map] at y0
  exact ⟨b2, o2, rfl, hb2, y0⟩
/-- a name is given an address. -/
theorem Pm.put (h : Pm B w p TA tc text DA dc data at_ dat mb nm F sv S) {nm2 : Nat} {F2 : Names} (hM : SMap w' mb nm2 F2) (hg : w.grownBy w' (some mb)) : Pm B w' p TA tc text DA dc data at_ dat mb nm2 F2 sv S ∧ Below B w w' := by
  obtain ⟨es, c, hmb⟩ := h.map.block
  have hB : Below B w w' := (Below.refl B w).grown hg h.le fun k hk => by cases hk; exact h.hm
  have hpm : p ≠ mb := by
    rintro rfl
    rw [h.pr.str] at hmb
    cases hmb
  have hs : w.heap.size ≤ w'.heap.size := hg.size
  have htx := h.tx.below hB
  have hdt := h.dt.below hB
  refine ⟨⟨⟨(hg.block p h.lt (fun e => hpm (Option.some.inj e))).trans h.pr.str, htx.more (Nat.le_trans h.le hs), hdt.more (Nat.le_trans h.le hs), h.pr.tl, h.pr.dl⟩, htx, hdt, h.hp, h.hm, hM, owns_keep h.szs fun g hg2 => ?_, h.tz.belowB h.tb hB, h.tb, h.rv.belowB h.rb hB, h.rb⟩, hB⟩
  obtain ⟨_, cur, hc⟩ := owns_block h.szs hg2
  refine hg.block g (lt_of_block hc) (fun e => ?_)
  obtain rfl := Option.some.inj e
  rw [hmb] at hc
  cases hc
end
end Go.Proofs
