/- patinalaw04.ElfLoads answers true for every input, and leaves its argument as it was. No condition. -/
import Derived.Test.YtkgnodlhdilmoaaRows
import Derived.Test.YtkgnodlhdilmoaaOpenI
import Derived.Test.YtkgnodlhdilmoaaElfLoads
namespace Go.Proofs.Ytkgnodlhdilmoaa
open Go Go.ChangeShapes Go.WideShapes Go.ChangeAt Go.RowKit Go.Pat Go.Joins

theorem own : ownKnob Try.prog.godebug = none := by kernel_rfl
theorem laidOut : laidOutB Try.prog = true := by kernel_rfl

set_option maxRecDepth 100000 in
set_option maxHeartbeats 1000000 in
theorem elfLoads_lifted (os : Os) (started : os.Started) (H : Type) (enc : TypeId × Value → H) :
    ReturnsInHanded {} Try.checked os 9 .any (Rows.elfLoadsSpec.pre6 enc Try.prog Try.f9 Rows.elfLoadsRow.domain false) (Rows.elfLoadsSpec.post enc Try.prog Try.f9 false true false false) := by
  refine returnsInHanded_of_change_sized (C := Try.checked) own started (by kernel_rfl) Try.func9
    (ChangeSpec.witness6 (enc := enc) (C := Try.checked) false ⟨#[], #[.agg #[.int .u64 0, .slice none 0 0], .int .u64 0], []⟩ 8 (by kernel_rfl) (by kernel_rfl) (by kernel_rfl) (by kernel_rfl)) ?_
  intro W base args ds gs before hval0 hW hcnd hsz0 _
  have hval : ∀ (j : Nat) t v, Try.f9.params[j]? = some t → args[j]? = some v → Value.okWide Try.prog W .any base t v := hval0
  have hW' := hW
  obtain ⟨p, q, hA0, hV, rfl, hfz, hnd⟩ := hW
  have hA : DataW.TrodAll enc Try.prog W 0 (fun _ => true) true Try.f9.params.toList args.toList ds p := hA0
  have hA1 := hA
  rw [Try.params9] at hA hval
  obtain ⟨v0, v1, d0, d1, p0, p1, rfl, rfl, rfl, h0, h1⟩ := trodAll_two hA
  obtain ⟨rfl, rfl⟩ := trodVars_none hV
  rw [List.append_nil] at hW'
  have hsz : (DataW.weightsEach Try.prog [38, 23] [d0, d1]).all (fun x => decide (x ≤ reachBytes)) = true := hsz0
  have hwt0 : ∀ n ∈ d0.weights Try.prog 38, n ≤ reachBytes := fun n hn => by simpa using List.all_eq_true.1 hsz n (DataW.weights_mem_each (j := 0) rfl rfl n hn)
  obtain ⟨u00, u01, y00, y01, n0, rfl, rfl, hp0, t00, t01⟩ := open_agg2 Try.underlying38 (by kernel_rfl) (by kernel_rfl) (hval 0 38 v0 rfl rfl) h0
  obtain ⟨z0, e00, _, k0⟩ := DataW.trod_int Try.underlying23 t00
  obtain ⟨A0, cap0, ss0, e01, hP0⟩ := open_segs t01 (agg_weights Try.underlying38 hwt0 1 rfl rfl)
  simp only [List.cons.injEq, and_true] at e00 e01
  subst e00 e01
  have hz0 : 0 ≤ z0 ∧ z0 ≤ 18446744073709551615 := by have := k0; simp [Lit.wf] at this; exact this
  obtain ⟨en0, rfl⟩ : ∃ a : Nat, z0 = a := ⟨z0.toNat, by omega⟩
  have hwt1 : ∀ n ∈ d1.weights Try.prog 23, n ≤ reachBytes := fun n hn => by simpa using List.all_eq_true.1 hsz n (DataW.weights_mem_each (j := 1) rfl rfl n hn)
  obtain ⟨fuel1, hf1⟩ := h1
  obtain ⟨z1, rfl⟩ := okWide_int Try.underlying23 (hval 1 23 v1 rfl rfl)
  obtain ⟨y1, e1, _, k1⟩ := DataW.trod_int Try.underlying23 hf1
  have e1' := (List.cons.inj e1).1
  simp only [Value.int.injEq, true_and] at e1'
  subst e1'
  have hz1 : 0 ≤ z1 ∧ z1 ≤ 18446744073709551615 := by have := k1; simp [Lit.wf] at this; exact this
  obtain ⟨at1, rfl⟩ : ∃ a : Nat, z1 = a := ⟨z1.toNat, by omega⟩
  refine (ElfLoads_any W A0 cap0 en0 _ ss0 hP0 rfl (by omega) at1 (by omega)).mono fun e W' ⟨he, hw⟩ => ?_
  subst he
  exact ⟨_, rfl, post_below hW' hA1 laidOut (by rw [Try.params9]; intro t ht; simp only [List.mem_cons, List.not_mem_nil, or_false] at ht; rcases ht with rfl | rfl <;> exact ⟨by kernel_rfl, of_decide_eq_true (by kernel_rfl)⟩) hw rfl rfl rfl (fun _ _ _ => trodAll_mk1 (shut_bool Try.underlying4 _))⟩

theorem elfLoads_holds : Rows.ElfLoadsSaid :=
  OpenClaim.holds_of_wide 9 Try.f9 rfl rfl rfl rfl rfl rfl rfl ⟨rfl, rfl, rfl, rfl, rfl⟩ rfl rfl rfl rfl rfl (by kernel_rfl) Try.func9 (by kernel_rfl)
    (of_decide_eq_true (by kernel_rfl)) (by unfold Func.isWrapper; first | (rw [if_pos (by decide +kernel)]; kernel_rfl) | (rw [if_neg (by decide +kernel)]; exact ⟨rfl, rfl⟩))
    (fun os started H enc _ => elfLoads_lifted os started H enc)
#print axioms elfLoads_holds
end Go.Proofs.Ytkgnodlhdilmoaa
