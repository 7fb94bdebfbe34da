/- What comes in, opened: numbers, bytes. -/
import Derived.Test.YtlhenglopnipaaaGreatDoorRows
import Derived.Test.YtlhenglopnipaaaGreatDoorTie
import Derived.Test.YtlhenglopnipaaaGreatDoorCards
import Derived.Test.YtlhenglopnipaaaGreatDoorOpen
import Derived.Test.YtlhenglopnipaaaGreatDoorLaidTz
import Derived.ProofKit
import Derived.LaidMore
import Derived.OpenShut
import Derived.Stop.Joined
import Derived.SevenTiedAt
import Derived.Test.YtlhenglopnipaaaGreatDoorAsmPQ
import Derived.Test.YtlhenglopnipaaaGreatDoorRtLY
namespace Go.Proofs.YtlhenglopnipaaaGreatDoor
open Go Go.ChangeShapes Go.WideShapes Go.ChangeAt Go.RowKit Go.Pat Go.Joins Go.WideMaps Go.WideElems
theorem own : ownKnob Tryz.prog.godebug = none := by kernel_rfl
theorem laidOut : laidOutB Tryz.prog = true := by kernel_rfl
variable {H : Type} {enc : TypeId × Value → H} {w : World} {base : Nat} {spare : Nat → Bool} {held : Bool}
end Go.Proofs.YtlhenglopnipaaaGreatDoor
