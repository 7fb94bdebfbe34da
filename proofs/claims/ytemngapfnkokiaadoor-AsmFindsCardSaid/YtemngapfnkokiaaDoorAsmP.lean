/- asm.Assemble: what it makes of items (plain). -/
import Derived.Test.YtemngapfnkokiaaDoorItems
import Derived.Test.YtemngapfnkokiaaDoorSMap
import Derived.Test.YtemngapfnkokiaaDoorLittle
import Derived.Test.YtemngapfnkokiaaDoorRaw
import Derived.Test.YtemngapfnkokiaaDoorFits
import Derived.Test.YtemngapfnkokiaaDoorPair
import Derived.Test.YtemngapfnkokiaaDoorEnc
namespace Go.Pat
open Go Go.RowKit Go.Proofs
abbrev Names := List UInt8 → Option Nat
def Names.upd (F : Names) (s : ByteArray) (v : Nat) : Names := fun l => if l = s.data.toList then some v else F l
/-- the first round over the items: what is wrong, and with which; or the labels. -/
def chk1 (tl : Nat) : Nat → List It → Names → (Int × Nat) ⊕ Names
  | _, [], F => .inr F
  | n, x :: r, F =>
    if itemE x (decide (tl ≤ n)) = 0 then
      if x.k = 1 then (if (F x.s.data.toList).isSome then .inl (51, n) else chk1 tl (n + 1) r (F.upd x.s 0)) else chk1 tl (n + 1) r F
    else .inl (itemE x (decide (tl ≤ n)), n)
/-- the second round: a name that is no label's. -/
def chk2 (F : Names) : Nat → List It → Option Nat
  | _, [] => none
  | n, x :: r => if x.s.toList ≠ [] ∧ (F x.s.data.toList).isSome = false then some n else chk2 F (n + 1) r
def begM (text data : List It) (at_ dat : Nat) : (Int × Nat) ⊕ Names :=
  if at_ % 4 ≠ 0 ∨ dat % 8 ≠ 0 ∨ 1099511627776 < at_ ∨ 1099511627776 < dat then .inl (1, 0)
  else if 1048576 < text.length ∨ 1048576 - text.length < data.length then .inl (2, 0)
  else match chk1 text.length 0 (text ++ data) (fun _ => none) with
    | .inl e => .inl e
    | .inr F => match chk2 F 0 text with
      | some n => .inl (50, n)
      | none => .inr F
/-- addresses for labels. -/
def layL : List (It × Int) → Nat → Names → Names
  | [], _, F => F
  | x :: r, at_, F => layL r (wrN ((at_ : Int) + x.2)) (if x.1.k = 1 then F.upd x.1.s at_ else F)
def layM (text data : List It) (S : List Int) (at_ dat : Nat) (F : Names) : Names :=
  layL (data.map fun x => (x, leastM x)) dat (layL (text.zip S) at_ F)
/-- longer items where labels aren't reached. -/
def nexts (F : Names) : Nat → List (It × Int) → List Int
  | _, [] => []
  | at_, x :: r => (if fitsM x.1.k x.2 (distM F x.1.s at_) then x.2 else x.2 + 4) :: nexts F (wrN ((at_ : Int) + x.2)) r
def nextM (text data : List It) (at_ dat : Nat) (F0 : Names) (S : List Int) : List Int := nexts (layM text data S at_ dat F0) at_ (text.zip S)
/-- an item's instructions. -/
def jumpM (rd link d : Int) : List In × Bool := ([⟨2, link, 0, 0, farH d⟩, ⟨4, rd, link, 0, restI d⟩], farB d)
def codeM (x : It) (size d : Int) : List In × Bool :=
  if (x.k = 5 ∨ x.k = 6 ∨ x.k = 7) ∧ d % 2 ≠ 0 then ([], false)
  else if x.k = 2 then ([⟨x.op, x.rd, x.a, x.b, x.n⟩], true)
  else if x.k = 3 then (liL x.rd x.n, true)
  else if x.k = 4 then ([⟨2, x.rd, 0, 0, farH d⟩, ⟨22, x.rd, x.rd, 0, restI d⟩], farB d)
  else if x.k = 5 ∨ x.k = 6 then
    if size = 4 then ([⟨3, x.rd, 0, 0, d⟩], true) else if x.k = 5 then jumpM 0 6 d else jumpM x.rd x.rd d
  else if x.k = 7 then
    if size = 4 then ([⟨x.op, x.rd, x.a, x.b, d⟩], true)
    else if size = 8 then ([⟨turnM x.op, x.rd, x.a, x.b, size⟩, ⟨3, 0, 0, 0, wrap64 (d - 4)⟩], true)
    else (⟨turnM x.op, x.rd, x.a, x.b, size⟩ :: (jumpM 0 6 (wrap64 (d - 4))).1, (jumpM 0 6 (wrap64 (d - 4))).2)
  else ([], true)
def insB : List In → List UInt8
  | [] => []
  | i :: r => le 4 (encZ i.op i.rd i.a i.b i.n) ++ insB r
theorem insB_append (a b : List In) : insB (a ++ b) = insB a ++ insB b := by
  induction a with
  | nil => rfl
  | cons i r ih => simp [insB, ih]
def bytM (F : Names) : Nat → Nat → List (It × Int) → List UInt8 → Nat ⊕ List UInt8
  | _, _, [], out => .inr out
  | n, at_, x :: r, out =>
    if (codeM x.1 x.2 (distM F x.1.s at_)).2 then bytM F (n + 1) (wrN ((at_ : Int) + x.2)) r (out ++ (insB (codeM x.1 x.2 (distM F x.1.s at_)).1 ++ rawM x.1)) else .inl n
def dataM : List It → List UInt8
  | [] => []
  | x :: r => rawM x ++ dataM r
def labsM (F : Names) : List It → List Lab
  | [] => []
  | x :: r => if x.k = 1 then (x.s, (F x.s.data.toList).getD 0) :: labsM F r else labsM F r
end Go.Pat
