/- patinalaw02.MemStores answers true for every input, and leaves its argument as it was. No condition. -/
import Derived.Test.YtkgnodlhdilmoaaRows
import Derived.Test.YtkgnodlhdilmoaaOpen
import Derived.Test.YtkgnodlhdilmoaaMemStores
namespace Go.Proofs.Ytkgnodlhdilmoaa
open Go Go.ChangeShapes Go.WideShapes Go.ChangeAt Go.RowKit Go.Pat Go.Joins

theorem own : ownKnob Try.prog.godebug = none := by kernel_rfl
theorem laidOut : laidOutB Try.prog = true := by kernel_rfl

set_option maxRecDepth 100000 in
theorem memStores_lifted (os : Os) (started : os.Started) (H : Type) (enc : TypeId × Value → H) :
    ReturnsInHanded {} Try.checked os 16 .any (Rows.memStoresSpec.pre6 enc Try.prog Try.f16 Rows.memStoresRow.domain false) (Rows.memStoresSpec.post enc Try.prog Try.f16 false true false false) := by
  refine returnsInHanded_of_change_sized (C := Try.checked) own started (by kernel_rfl) Try.func16
    (ChangeSpec.witness6 (enc := enc) (C := Try.checked) false ⟨#[], #[.agg #[.slice none 0 0, .int .u64 0, .int .i64 0, .int .u64 0]], []⟩ 8 (by kernel_rfl) (by kernel_rfl) (by kernel_rfl) (by kernel_rfl)) ?_
  intro W base args ds gs before hval0 hW hcnd hsz0 _
  have hval : ∀ (j : Nat) t v, Try.f16.params[j]? = some t → args[j]? = some v → Value.okWide Try.prog W .any base t v := hval0
  have hW' := hW
  obtain ⟨p, q, hA0, hV, rfl, hfz, hnd⟩ := hW
  have hA : DataW.TrodAll enc Try.prog W 0 (fun _ => true) true Try.f16.params.toList args.toList ds p := hA0
  have hA1 := hA
  rw [Try.params16] at hA hval
  obtain ⟨v0, d0, rfl, rfl, h0⟩ := trodAll_one hA
  obtain ⟨rfl, rfl⟩ := trodVars_none hV
  rw [List.append_nil] at hW'
  have hsz : (DataW.weightsEach Try.prog [25] [d0]).all (fun x => decide (x ≤ reachBytes)) = true := hsz0
  have hwt : ∀ n ∈ d0.weights Try.prog 25, n ≤ reachBytes := fun n hn => by simpa using List.all_eq_true.1 hsz n (DataW.weights_mem_each (j := 0) rfl rfl n hn)
  obtain ⟨u0, u1, u2, u3, y0, y1, y2, y3, n, rfl, rfl, hp, t0, t1, t2, t3⟩ := open_agg4 Try.underlying25 (by kernel_rfl) (by kernel_rfl) (hval 0 25 v0 rfl rfl) h0
  obtain ⟨A, cap, ps, e0, hP⟩ := open_pages t0 (agg_weights Try.underlying25 hwt 0 rfl rfl)
  obtain ⟨z1, e1, _, k1⟩ := DataW.trod_int Try.underlying23 t1
  obtain ⟨z2, e2, _, _⟩ := DataW.trod_int Try.underlying3 t2
  obtain ⟨z3, e3, _, k3⟩ := DataW.trod_int Try.underlying23 t3
  simp only [List.cons.injEq, and_true] at e0 e1 e2 e3
  subst e0 e1 e2 e3
  have hz1 : 0 ≤ z1 ∧ z1 ≤ 18446744073709551615 := by have := k1; simp [Lit.wf] at this; exact this
  have hz3 : 0 ≤ z3 ∧ z3 ≤ 18446744073709551615 := by have := k3; simp [Lit.wf] at this; exact this
  obtain ⟨at_, rfl⟩ : ∃ a : Nat, z1 = a := ⟨z1.toNat, by omega⟩
  obtain ⟨v, rfl⟩ : ∃ a : Nat, z3 = a := ⟨z3.toNat, by omega⟩
  refine (MemStores_any W A cap at_ v z2 ps hP (by omega) (by omega)).mono fun e W' ⟨he, hw⟩ => ?_
  subst he
  exact ⟨_, rfl, post_below hW' hA1 laidOut (by rw [Try.params16]; simp only [List.mem_singleton, forall_eq]; exact ⟨by kernel_rfl, of_decide_eq_true (by kernel_rfl)⟩) hw rfl rfl rfl (fun _ _ _ => trodAll_mk1 (shut_bool Try.underlying4 _))⟩

theorem memStores_holds : Rows.MemStoresSaid :=
  OpenClaim.holds_of_wide 16 Try.f16 rfl rfl rfl rfl rfl rfl rfl ⟨rfl, rfl, rfl, rfl, rfl⟩ rfl rfl rfl rfl rfl (by kernel_rfl) Try.func16 (by kernel_rfl)
    (of_decide_eq_true (by kernel_rfl)) (by unfold Func.isWrapper; first | (rw [if_pos (by decide +kernel)]; kernel_rfl) | (rw [if_neg (by decide +kernel)]; exact ⟨rfl, rfl⟩))
    (fun os started H enc _ => memStores_lifted os started H enc)
#print axioms memStores_holds
end Go.Proofs.Ytkgnodlhdilmoaa
