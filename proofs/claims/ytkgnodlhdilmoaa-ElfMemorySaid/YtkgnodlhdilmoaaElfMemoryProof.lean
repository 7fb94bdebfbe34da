/- patinalaw04.ElfMemory answers true for every input, and leaves its argument as it was. No condition. -/
import Derived.Test.YtkgnodlhdilmoaaRows
import Derived.Test.YtkgnodlhdilmoaaOpenI
import Derived.Test.YtkgnodlhdilmoaaElfMemory
namespace Go.Proofs.Ytkgnodlhdilmoaa
open Go Go.ChangeShapes Go.WideShapes Go.ChangeAt Go.RowKit Go.Pat Go.Joins

theorem own : ownKnob Try.prog.godebug = none := by kernel_rfl
theorem laidOut : laidOutB Try.prog = true := by kernel_rfl

set_option maxRecDepth 100000 in
set_option maxHeartbeats 1000000 in
theorem elfMemory_lifted (os : Os) (started : os.Started) (H : Type) (enc : TypeId × Value → H) :
    ReturnsInHanded {} Try.checked os 10 .any (Rows.elfMemorySpec.pre6 enc Try.prog Try.f10 Rows.elfMemoryRow.domain false) (Rows.elfMemorySpec.post enc Try.prog Try.f10 false true false false) := by
  refine returnsInHanded_of_change_sized (C := Try.checked) own started (by kernel_rfl) Try.func10
    (ChangeSpec.witness6 (enc := enc) (C := Try.checked) false ⟨#[], #[.agg #[.int .u64 0, .slice none 0 0]], []⟩ 8 (by kernel_rfl) (by kernel_rfl) (by kernel_rfl) (by kernel_rfl)) ?_
  intro W base args ds gs before hval0 hW hcnd hsz0 _
  have hval : ∀ (j : Nat) t v, Try.f10.params[j]? = some t → args[j]? = some v → Value.okWide Try.prog W .any base t v := hval0
  have hW' := hW
  obtain ⟨p, q, hA0, hV, rfl, hfz, hnd⟩ := hW
  have hA : DataW.TrodAll enc Try.prog W 0 (fun _ => true) true Try.f10.params.toList args.toList ds p := hA0
  have hA1 := hA
  rw [Try.params10] at hA hval
  obtain ⟨v0, d0, rfl, rfl, h0⟩ := trodAll_one hA
  obtain ⟨rfl, rfl⟩ := trodVars_none hV
  rw [List.append_nil] at hW'
  have hsz : (DataW.weightsEach Try.prog [38] [d0]).all (fun x => decide (x ≤ reachBytes)) = true := hsz0
  have hwt0 : ∀ n ∈ d0.weights Try.prog 38, n ≤ reachBytes := fun n hn => by simpa using List.all_eq_true.1 hsz n (DataW.weights_mem_each (j := 0) rfl rfl n hn)
  obtain ⟨u00, u01, y00, y01, n0, rfl, rfl, hp0, t00, t01⟩ := open_agg2 Try.underlying38 (by kernel_rfl) (by kernel_rfl) (hval 0 38 v0 rfl rfl) h0
  obtain ⟨z0, e00, _, k0⟩ := DataW.trod_int Try.underlying23 t00
  obtain ⟨A0, cap0, ss0, e01, hP0⟩ := open_segs t01 (agg_weights Try.underlying38 hwt0 1 rfl rfl)
  simp only [List.cons.injEq, and_true] at e00 e01
  subst e00 e01
  have hz0 : 0 ≤ z0 ∧ z0 ≤ 18446744073709551615 := by have := k0; simp [Lit.wf] at this; exact this
  obtain ⟨en0, rfl⟩ : ∃ a : Nat, z0 = a := ⟨z0.toNat, by omega⟩
  refine (ElfMemory_any W A0 cap0 en0 _ ss0 hP0 rfl (by omega)).mono fun e W' ⟨he, hw⟩ => ?_
  subst he
  exact ⟨_, rfl, post_below hW' hA1 laidOut (by rw [Try.params10]; simp only [List.mem_singleton, forall_eq]; exact ⟨by kernel_rfl, of_decide_eq_true (by kernel_rfl)⟩) hw rfl rfl rfl (fun _ _ _ => trodAll_mk1 (shut_bool Try.underlying4 _))⟩

theorem elfMemory_holds : Rows.ElfMemorySaid :=
  OpenClaim.holds_of_wide 10 Try.f10 rfl rfl rfl rfl rfl rfl rfl ⟨rfl, rfl, rfl, rfl, rfl⟩ rfl rfl rfl rfl rfl (by kernel_rfl) Try.func10 (by kernel_rfl)
    (of_decide_eq_true (by kernel_rfl)) (by unfold Func.isWrapper; first | (rw [if_pos (by decide +kernel)]; kernel_rfl) | (rw [if_neg (by decide +kernel)]; exact ⟨rfl, rfl⟩))
    (fun os started H enc _ => elfMemory_lifted os started H enc)
#print axioms elfMemory_holds
end Go.Proofs.Ytkgnodlhdilmoaa
