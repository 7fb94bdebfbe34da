/- An assembled program that came in, opened. -/
import Derived.Test.YtlhenglopnipaaaGreatDoorRtOpen
import Derived.Test.YtlhenglopnipaaaGreatDoorFitsA
namespace Go.Proofs.YtlhenglopnipaaaGreatDoor
open Go Go.ChangeShapes Go.WideShapes Go.ChangeAt Go.RowKit Go.Pat Go.Joins Go.WideMaps Go.WideElems Go.Deep
theorem take_drop10 (l : List Value) (a k : Nat) : l.drop a = (l.drop a).take k ++ l.drop (a + k) := by
  rw [← List.drop_drop, List.take_append_drop]
theorem lst3x {α : Type} : ∀ {l : List α}, l.length = 3 → ∃ a b c, l = [a, b, c]
  | [a, b, c], _ => ⟨a, b, c, rfl⟩
section
variable {H : Type} {enc : TypeId × Value → H} {w : World} {base : Nat} {spare : Nat → Bool} {held : Bool}
end
end Go.Proofs.YtlhenglopnipaaaGreatDoor
