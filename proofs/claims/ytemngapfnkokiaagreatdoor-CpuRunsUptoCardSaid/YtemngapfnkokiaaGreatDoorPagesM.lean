/- (*cpu.Machine).Pages. -/
import Derived.Test.YtemngapfnkokiaaGreatDoorMachC
import Derived.Test.YtemngapfnkokiaaGreatDoorPages
namespace Go.Pat
open Go Go.RowKit
theorem sortF_pg {fs gs : List Fr} (h : fs.map Fr.pg = gs.map Fr.pg) : (sortF fs).map Fr.pg = (sortF gs).map Fr.pg := by
  have e : ∀ l : List Fr, (sortF l).map Fr.pg = (l.map Fr.pg).mergeSort (fun a b => decide ((a.base : Int) ≤ (b.base : Int))) := fun l => List.map_mergeSort fun _ _ _ _ => rfl
  rw [e, e, h]
end Go.Pat
namespace Go.Proofs
open Go Go.RowKit Go.Pat
theorem cPages_any (w : World) (m p mb : Nat) (ov iv : Value) (s : Ms) (hM : MachAt w m p mb ov iv s) (hlen : s.fs.length ≤ 90000) :
    Calls Tryz.prog 12 #[.pointer (some ⟨m, 0, none⟩)] w fun e w' => ∃ v ss, e = .returned v ∧ OwnPs w' w.heap.size v ss ∧ ss.map PgIn.pg = (sortF s.fs).map Fr.pg ∧ Below w.heap.size w w' := by
  have c1 := hM.cmem
  have HP := Lib.hid (Pages_any (some ⟨p, 0, none⟩) s.fs hlen w hM.mem.memN)
  clear hM
  go_enter Tryz.func12, Tryz.ntmps12
  go_wp2_with fail
  refine Calls.mono HP.out ?_
  rintro e w' ⟨v, ss, rfl, h1, h2, h3⟩
  go_wp2
  go_ret
  exact ⟨v, ss, rfl, h1, h2, h3⟩
end Go.Proofs
