/- patinalaw02.MemPeeks answers true for every input, and leaves its arguments as they were. No condition. -/
import Derived.Test.YtkgnodlhdilmoaaRows
import Derived.Test.YtkgnodlhdilmoaaOpen
import Derived.Test.YtkgnodlhdilmoaaOpenI
import Derived.Test.YtkgnodlhdilmoaaMemPeeks
namespace Go.Proofs.Ytkgnodlhdilmoaa
open Go Go.ChangeShapes Go.WideShapes Go.ChangeAt Go.RowKit Go.Pat Go.Joins

theorem own : ownKnob Try.prog.godebug = none := by kernel_rfl
theorem laidOut : laidOutB Try.prog = true := by kernel_rfl

set_option maxRecDepth 100000 in
set_option maxHeartbeats 1000000 in
theorem memPeeks_lifted (os : Os) (started : os.Started) (H : Type) (enc : TypeId × Value → H) :
    ReturnsInHanded {} Try.checked os 17 .any (Rows.memPeeksSpec.pre6 enc Try.prog Try.f17 Rows.memPeeksRow.domain false) (Rows.memPeeksSpec.post enc Try.prog Try.f17 false true false false) := by
  refine returnsInHanded_of_change_sized (C := Try.checked) own started (by kernel_rfl) Try.func17
    (ChangeSpec.witness6 (enc := enc) (C := Try.checked) false ⟨#[], #[.agg #[.slice none 0 0, .int .u64 0, .int .i64 0, .int .u64 0], .slice none 0 0], []⟩ 8 (by kernel_rfl) (by kernel_rfl) (by kernel_rfl) (by kernel_rfl)) ?_
  intro W base args ds gs before hval0 hW hcnd hsz0 _
  have hval : ∀ (j : Nat) t v, Try.f17.params[j]? = some t → args[j]? = some v → Value.okWide Try.prog W .any base t v := hval0
  have hW' := hW
  obtain ⟨p, q, hA0, hV, rfl, hfz, hnd⟩ := hW
  have hA : DataW.TrodAll enc Try.prog W 0 (fun _ => true) true Try.f17.params.toList args.toList ds p := hA0
  have hA1 := hA
  rw [Try.params17] at hA hval
  obtain ⟨v0, v1, d0, d1, p0, p1, rfl, rfl, rfl, h0, h1⟩ := trodAll_two hA
  obtain ⟨rfl, rfl⟩ := trodVars_none hV
  rw [List.append_nil] at hW'
  have hsz : (DataW.weightsEach Try.prog [25, 35] [d0, d1]).all (fun x => decide (x ≤ reachBytes)) = true := hsz0
  have hwt0 : ∀ n ∈ d0.weights Try.prog 25, n ≤ reachBytes := fun n hn => by simpa using List.all_eq_true.1 hsz n (DataW.weights_mem_each (j := 0) rfl rfl n hn)
  obtain ⟨u00, u01, u02, u03, y00, y01, y02, y03, n0, rfl, rfl, hp0, t00, t01, t02, t03⟩ := open_agg4 Try.underlying25 (by kernel_rfl) (by kernel_rfl) (hval 0 25 v0 rfl rfl) h0
  obtain ⟨A0, cap0, ps0, e00, hP0⟩ := open_pages t00 (agg_weights Try.underlying25 hwt0 0 rfl rfl)
  obtain ⟨z01, e01, _, k01⟩ := DataW.trod_int Try.underlying23 t01
  obtain ⟨z02, e02, _, _⟩ := DataW.trod_int Try.underlying3 t02
  obtain ⟨z03, e03, _, k03⟩ := DataW.trod_int Try.underlying23 t03
  simp only [List.cons.injEq, and_true] at e00 e01 e02 e03
  subst e00 e01 e02 e03
  have hz01 : 0 ≤ z01 ∧ z01 ≤ 18446744073709551615 := by have := k01; simp [Lit.wf] at this; exact this
  have hz03 : 0 ≤ z03 ∧ z03 ≤ 18446744073709551615 := by have := k03; simp [Lit.wf] at this; exact this
  obtain ⟨ca0, rfl⟩ : ∃ a : Nat, z01 = a := ⟨z01.toNat, by omega⟩
  obtain ⟨cv0, rfl⟩ : ∃ a : Nat, z03 = a := ⟨z03.toNat, by omega⟩
  have hwt1 : ∀ n ∈ d1.weights Try.prog 35, n ≤ reachBytes := fun n hn => by simpa using List.all_eq_true.1 hsz n (DataW.weights_mem_each (j := 1) rfl rfl n hn)
  obtain ⟨a1, m1, c1, rfl⟩ := okWide_slice Try.underlying35 (hval 1 35 v1 rfl rfl)
  obtain ⟨fuel1, hf1⟩ := h1
  obtain ⟨A1, cap1, l1, e1, hB1, hl1, hc1⟩ := open_bytes_cap hf1 hwt1
  have e1' := (List.cons.inj e1).1
  simp only [Value.slice.injEq] at e1'
  obtain ⟨rfl, rfl, rfl⟩ := e1'
  refine (MemPeeks_any W A0 cap0 ca0 cv0 z02 ps0 hP0 (by omega) (by omega) _ _ _ l1 hB1 rfl hl1).mono fun e W' ⟨he, hw⟩ => ?_
  subst he
  exact ⟨_, rfl, post_below hW' hA1 laidOut (by rw [Try.params17]; intro t ht; simp only [List.mem_cons, List.not_mem_nil, or_false] at ht; rcases ht with rfl | rfl <;> exact ⟨by kernel_rfl, of_decide_eq_true (by kernel_rfl)⟩) hw rfl rfl rfl (fun _ _ _ => trodAll_mk1 (shut_bool Try.underlying4 _))⟩

theorem memPeeks_holds : Rows.MemPeeksSaid :=
  OpenClaim.holds_of_wide 17 Try.f17 rfl rfl rfl rfl rfl rfl rfl ⟨rfl, rfl, rfl, rfl, rfl⟩ rfl rfl rfl rfl rfl (by kernel_rfl) Try.func17 (by kernel_rfl)
    (of_decide_eq_true (by kernel_rfl)) (by unfold Func.isWrapper; first | (rw [if_pos (by decide +kernel)]; kernel_rfl) | (rw [if_neg (by decide +kernel)]; exact ⟨rfl, rfl⟩))
    (fun os started H enc _ => memPeeks_lifted os started H enc)
#print axioms memPeeks_holds
end Go.Proofs.Ytkgnodlhdilmoaa
