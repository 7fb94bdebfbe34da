/- patinalaw03.CpuParts answers true for every input that reads as bulk of at most 1048576, and leaves its arguments as they were; the card ties the variable patina/rv.rows to the program's text. Conditions: the tied one, and that bulk. -/
import Derived.Test.YtemngapfnkokiaaDoorRows
import Derived.Test.YtemngapfnkokiaaDoorTie
import Derived.Test.YtemngapfnkokiaaDoorCards
import Derived.Test.YtemngapfnkokiaaDoorOpen
import Derived.Test.YtemngapfnkokiaaDoorCpuParts
import Derived.Test.YtemngapfnkokiaaDoorOpenCase
import Derived.Test.YtemngapfnkokiaaDoorUptoKit
import Derived.Test.YtemngapfnkokiaaDoorLaidRv
import Derived.ProofKit
import Derived.LaidMore
import Derived.OpenShut
import Derived.Stop.Joined
import Derived.SevenTiedAt
import Derived.JoinedCond
namespace Go.Proofs.YtemngapfnkokiaaDoor
open Go Go.ChangeShapes Go.WideShapes Go.ChangeAt Go.RowKit Go.Pat Go.Joins Go.WideMaps Go.WideElems

theorem CpuParts_any (w : World) (c : Mc) (OA PA IA : Option Addr) (oc pc ic : Nat) (ps : List PgIn) (inp : List UInt8) (N M : Int) (hl : c.regs.length = 32) (hsm : ∀ i, c.reg i < 18446744073709551616) (hpc : c.pc < 18446744073709551616)
    (hO : Bs w.heap.size w OA c.out) (hol : c.out.length ≤ 140737488345328) (hP : PgsAt w.heap.size w PA ps) (hI : Bs w.heap.size w IA inp) (hil : inp.length ≤ 140737488355328) (hR : RvRows w) :
    Calls Tryd.prog 9 #[.agg (caseC c OA PA IA oc pc ic ps.length inp.length N).toArray, .int .i64 M] w fun e w' => e = .returned (.bool true) ∧ Below w.heap.size w w' := by
  by_cases hbad : N < 0 ∨ 5000 < N ∨ M < 0 ∨ 5000 < M
  · exact CpuParts_out w c OA PA IA oc pc ic _ _ N M hbad hl hR
  · obtain ⟨n, rfl⟩ : ∃ n : Nat, N = n := ⟨N.toNat, by omega⟩
    obtain ⟨k, rfl⟩ : ∃ k : Nat, M = k := ⟨M.toNat, by omega⟩
    exact CpuParts_in w c OA PA IA oc pc ic ps inp n k (by omega) (by omega) hl hsm hpc hO hol hP hI hil hR
theorem own : ownKnob Tryd.prog.godebug = none := by kernel_rfl
theorem laidOut : laidOutB Tryd.prog = true := by kernel_rfl
theorem door_met (os : Os) (args : Array Value) : laidMetH Tryd.prog Rows.cpuPartsUptoRow.laid ((World.doorLaid Tryd.prog 84 os).forCall (fun _ _ => 0) ⟨#[], args, []⟩).memory :=
  laidMetH_of_parts3 (fuel := 8) (laidMet_of_run' 8 (by kernel_rfl) (by kernel_rfl)) (by kernel_rfl) (by kernel_rfl)

set_option maxRecDepth 100000 in
set_option maxHeartbeats 1000000 in
theorem cpuPartsUpto_lifted (os : Os) (started : os.Started) (H : Type) (enc : TypeId × Value → H) (F : Stop.Interp) :
    ReturnsInHanded {} Tryd.checked os 9 .any (fun w args => ((Rows.OpenSpec.upto Rows.cpuPartsSpec).pre enc Tryd.prog Tryd.f9 [] false w args ∧ laidMetH Tryd.prog Rows.cpuPartsUptoRow.laid w) ∧ sizedMet enc Tryd.prog Tryd.f9 (Rows.OpenSpec.upto Rows.cpuPartsSpec) false w args)
      (((Rows.OpenSpec.upto Rows.cpuPartsSpec).at F).post enc Tryd.prog Tryd.f9 false true false false) := by
  refine returnsInHanded_of_cond_and (C := Tryd.checked) (s := Rows.OpenSpec.upto Rows.cpuPartsSpec) (k := Rows.uptoSmall) rfl (X := fun w _ => laidMetH Tryd.prog Rows.cpuPartsUptoRow.laid w) (fun _ _ _ hh h => h.of_heap hh) own started (by kernel_rfl) Tryd.func9
    (witness_cond (enc := enc) (C := Tryd.checked) (os := os) (s := Rows.OpenSpec.upto Rows.cpuPartsSpec) (k := Rows.uptoSmall) rfl (X := fun w _ => laidMetH Tryd.prog Rows.cpuPartsUptoRow.laid w) false (World.doorLaid Tryd.prog 84 os) #[.agg #[.int .u64 0, .int .u64 0, .int .u64 0, .int .u64 0, .int .u64 0, .int .u64 0, .int .u64 0, .int .u64 0, .int .u64 0, .int .u64 0, .int .u64 0, .int .u64 0, .int .u64 0, .int .u64 0, .int .u64 0, .int .u64 0, .int .u64 0, .int .u64 0, .int .u64 0, .int .u64 0, .int .u64 0, .int .u64 0, .int .u64 0, .int .u64 0, .int .u64 0, .int .u64 0, .int .u64 0, .int .u64 0, .int .u64 0, .int .u64 0, .int .u64 0, .int .u64 0, .int .u64 0, .int .i64 0, .bool false, .int .i64 0, .int .i64 0, .slice none 0 0, .int .i64 0, .slice none 0 0, .slice none 0 0, .int .i64 0], .int .i64 0] 8 rfl (World.shaped_of_RefB (by kernel_rfl) (by kernel_rfl)) (by kernel_rfl) (by kernel_rfl) (by kernel_rfl) (door_met os _)) ?_
  intro W base args ds gs before hval0 hW hcnd hkk hsz0 hL _
  have hval : ∀ (j : Nat) t v, Tryd.f9.params[j]? = some t → args[j]? = some v → Value.okWide Tryd.prog W .any base t v := hval0
  have hW' := hW
  obtain ⟨p, q, hA0, hV, rfl, hfz, hnd⟩ := hW
  have hA : DataW.TrodAll enc Tryd.prog W 0 (fun _ => true) true Tryd.f9.params.toList args.toList ds p := hA0
  have hA1 := hA
  rw [Tryd.params9] at hA hval
  obtain ⟨v0, v1, d0, d1, p0, p1, rfl, rfl, rfl, h0, h1⟩ := trodAll_two hA
  obtain ⟨rfl, rfl⟩ := trodVars_none hV
  rw [List.append_nil] at hW'
  have hsz : (DataW.weightsEach Tryd.prog [83, 3] [d0, d1]).all (fun x => decide (x ≤ reachBytes)) = true := hsz0
  have hwt0 : ∀ n ∈ d0.weights Tryd.prog 83, n ≤ reachBytes := fun n hn => by simpa using List.all_eq_true.1 hsz n (DataW.weights_mem_each (j := 0) rfl rfl n hn)
  obtain ⟨z1, rfl, rfl, rfl, -⟩ := open_int Tryd.underlying3 (hval 1 3 v1 rfl rfl) h1
  obtain ⟨cs, rfl, -⟩ := okWide_struct Tryd.underlying83 (hval 0 83 v0 rfl rfl)
  obtain ⟨fuel0, hf0⟩ := h0
  obtain ⟨c, OA, PA, IA, oc, pc, ic, ps, inp, N, e0, hl, hsm, hpc, hO, hol, hob, hP, hI, hil⟩ := open_case hf0 hwt0
  have hbulk : Rows.uptoBulk d0 ≤ 1048576 := by
    have h2 : Rows.uptoBulkAll [d0, .lit (.int .i64 z1)] ≤ 1048576 := of_decide_eq_true hkk
    simp only [Rows.uptoBulkAll] at h2
    omega
  have e1 : cs = (caseC c OA PA IA oc pc ic ps.length inp.length N).toArray := by
    have e2 : cs.toList = caseC c OA PA IA oc pc ic ps.length inp.length N := e0
    rw [← e2]
  subst e1
  refine (CpuParts_any W c OA PA IA oc pc ic ps inp N z1 hl hsm hpc hO (Nat.le_trans hob (by show Rows.uptoBulk d0 ≤ _; omega)) hP hI (by omega) (rvRows_laid hL)).mono fun e W' ⟨he, hw⟩ => ?_
  subst he
  exact ⟨_, rfl, post_below (s := Rows.cpuPartsSpec) hW' hA1 laidOut (by rw [Tryd.params9]; intro t ht; simp only [List.mem_cons, List.not_mem_nil, or_false] at ht; rcases ht with rfl | rfl <;> exact ⟨by kernel_rfl, of_decide_eq_true (by kernel_rfl)⟩) hw rfl rfl rfl (fun _ _ _ => trodAll_mk1 (shut_bool Tryd.underlying4 _))⟩

theorem cpuPartsUpto_said : Rows.CpuPartsUptoSaid :=
  OpenClaim.holds_of_cond 9 Tryd.f9 rfl rfl rfl rfl rfl rfl rfl ⟨rfl, rfl, rfl, rfl, rfl⟩ rfl rfl rfl rfl rfl (by kernel_rfl) Tryd.func9 (by kernel_rfl)
    (of_decide_eq_true (by kernel_rfl)) (by unfold Func.isWrapper; first | (rw [if_pos (by decide +kernel)]; kernel_rfl) | (rw [if_neg (by decide +kernel)]; exact ⟨rfl, rfl⟩))
    (fun os started H enc _ F => cpuPartsUpto_lifted os started H enc F)

theorem cpuPartsUpto_holds : Rows.CpuPartsUptoCardSaid :=
  Claim7.holds_tied_plain_at .later [] [.data] true Rows.cpuPartsUptoCard.stood.harness false
    cpuPartsUpto_said (fun _ h => by cases h) (by kernel_rfl) (fun _ h => by cases h) cpuPartsUpto_row_tie rfl ⟨rfl, rfl⟩ (by kernel_rfl) rfl
    (fun f fn hf hfn => by
      obtain rfl : f = 9 := Option.some.inj ((show Tryd.prog.funcNamed "patina/patinalaw03.CpuParts" = some 9 by kernel_rfl).symm.trans hf) |>.symm
      obtain rfl : fn = Tryd.f9 := (Option.some.inj (Tryd.func9.symm.trans hfn)).symm
      exact ⟨by kernel_rfl, fun j t ht => by
        rw [Tryd.params9] at ht
        have hm : t ∈ [83, 3] := by simpa using Array.mem_of_getElem? ht
        have hall : ([83, 3].all fun u => !Tryd.prog.wantsStandIn u) = true := by kernel_rfl
        exact (show Tryd.prog.wantsStandIn t = false by simpa using List.all_eq_true.1 hall t hm)⟩)
    (by kernel_rfl)
#print axioms cpuPartsUpto_holds
end Go.Proofs.YtemngapfnkokiaaDoor
