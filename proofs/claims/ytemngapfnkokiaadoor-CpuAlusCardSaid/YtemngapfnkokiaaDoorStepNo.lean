/- (*cpu.Machine).step: no word, or one that says nothing. -/
import Derived.Test.YtemngapfnkokiaaDoorStepC
import Derived.Deep.RegionHeld3
namespace Go.Proofs
open Go Go.RowKit Go.Pat
set_option maxRecDepth 20000 in
set_option maxHeartbeats 8000000 in
theorem step_nofetch (w : World) (m p mb : Nat) (ov iv : Value) (s : Ms) (hM : MachAt w m p mb ov iv s) (x : Nat) (z : Int) (hf : fetchM s.fs s.c.pc = (x, z)) (hz : z ≠ 0) :
    Calls Tryd.prog 63 #[.pointer (some ⟨m, 0, none⟩)] w (StepTo m p mb ov iv s (30, s) w) := by
  have hx : x < 4294967296 := by have := fetchM_lt s.fs s.c.pc; rw [hf] at this; exact this
  have a0 := hM.cpc
  have a39 := hM.cmem
  go_enter Tryd.func63, Tryd.ntmps63
  go_upto_region 1 with fail
  have hwd : Below w.heap.size w w.drew := (Below.refl _ _).drew
  go_region_held3 (fun w' => w'.cell? ⟨m, 0, none⟩ = some (.int .u64 (s.c.pc : Int)) ∧ w'.cell? ⟨m, 39, none⟩ = some (.pointer (some ⟨p, 0, none⟩)))
    (first | exact ⟨a0, a39⟩ | exact ⟨c0, c39⟩)
    (first | (go_at_call 94
              refine Calls.mono (Fetch_st w.drew p mb s.fs (hM.below hwd).mem s.c.pc hM.pc x z hf) ?_
              rintro e w1 ⟨rfl, hB1⟩
              have hB1' : Below w.heap.size w w1 := hwd.trans hB1
              have c0 := (hM.below hB1').cpc
              have c39 := (hM.below hB1').cmem))
  have tz : (z != 0) = true := by simp [hz]
  clear hf hB1 hwd c0 c39
  go_wp2
  go_ret
  exact ⟨rfl, ov, hM.below hB1', .of_below hB1', fun g h => .inl h⟩
set_option maxRecDepth 20000 in
set_option maxHeartbeats 8000000 in
theorem step_noword (w : World) (m p mb : Nat) (ov iv : Value) (s : Ms) (hM : MachAt w m p mb ov iv s) (hR : RvRows w) (x : Nat) (hf : fetchM s.fs s.c.pc = (x, 0)) (hi : decR x = none) :
    Calls Tryd.prog 63 #[.pointer (some ⟨m, 0, none⟩)] w (StepTo m p mb ov iv s (31, s) w) := by
  have hx : x < 4294967296 := by have := fetchM_lt s.fs s.c.pc; rw [hf] at this; exact this
  have a0 := hM.cpc
  have a39 := hM.cmem
  go_enter Tryd.func63, Tryd.ntmps63
  go_upto_region 1 with fail
  have hwd : Below w.heap.size w w.drew := (Below.refl _ _).drew
  go_region_held3 (fun w' => w'.cell? ⟨m, 0, none⟩ = some (.int .u64 (s.c.pc : Int)) ∧ w'.cell? ⟨m, 39, none⟩ = some (.pointer (some ⟨p, 0, none⟩)))
    (first | exact ⟨a0, a39⟩ | exact ⟨c0, c39⟩)
    (first | (go_at_call 94
              refine Calls.mono (Fetch_st w.drew p mb s.fs (hM.below hwd).mem s.c.pc hM.pc x 0 hf) ?_
              rintro e w1 ⟨rfl, hB1⟩
              have hB1' : Below w.heap.size w w1 := hwd.trans hB1
              have c0 := (hM.below hB1').cpc
              have c39 := (hM.below hB1').cmem))
  have hM1 := hM.below hB1'
  have hR1 := hR.below hB1'
  clear hf hB1 hwd c0 c39
  go_wp2_with fail
  refine Calls.mono (dec_none w1 hR1 x hx hi) ?_
  rintro e w2 ⟨rfl, hB2⟩
  go_upto_region 5 with fail
  have hB3 : Below w.heap.size w w2 := hB1'.trans (hB2.mono hB1'.size)
  have hBA := fun o => hB3.alloc hB3.size o
  go_wp2
  go_ret
  exact ⟨rfl, ov, hM.below (hBA _), .of_below (hBA _), fun g h => .inl h⟩
end Go.Proofs
