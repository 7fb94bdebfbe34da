/- patinalaw03.CpuRuns answers true for every input that reads as bulk of at most 1048576, and leaves its arguments as they were; the card ties the variable patina/rv.rows to the program's text. Conditions: the tied one, and that bulk. -/
import Derived.Test.YtemngapfnkokiaaGreatDoorRows
import Derived.Test.YtemngapfnkokiaaGreatDoorTie
import Derived.Test.YtemngapfnkokiaaGreatDoorCards
import Derived.Test.YtemngapfnkokiaaGreatDoorOpenAll
import Derived.Test.YtemngapfnkokiaaGreatDoorCpuRunsA
import Derived.Test.YtemngapfnkokiaaGreatDoorCpuRunsB
import Derived.ProofKit
import Derived.LaidMore
import Derived.OpenShut
import Derived.Stop.Joined
import Derived.SevenTiedAt
import Derived.JoinedCond
namespace Go.Proofs.YtemngapfnkokiaaGreatDoor
open Go Go.ChangeShapes Go.WideShapes Go.ChangeAt Go.RowKit Go.Pat Go.Joins Go.WideMaps Go.WideElems

theorem CpuRuns_any (w : World) (c : Mc) (OA PA IA : Option Addr) (oc pc ic : Nat) (ps : List PgIn) (inp : List UInt8) (N : Int) (hl : c.regs.length = 32) (hsm : ∀ i, c.reg i < 18446744073709551616) (hpc : c.pc < 18446744073709551616)
    (hO : Bs w.heap.size w OA c.out) (hol : c.out.length ≤ 140737488345328) (hP : PgsAt w.heap.size w PA ps) (hI : Bs w.heap.size w IA inp) (hil : inp.length ≤ 140737488355328) (hR : RvRows w) :
    Calls Tryz.prog 3 #[.agg (caseC c OA PA IA oc pc ic ps.length inp.length N).toArray] w fun e w' => e = .returned (.bool true) ∧ Below w.heap.size w w' := by
  rcases Int.lt_or_le 5000 N with h | h
  · exact CpuRuns_many w c OA PA IA oc pc ic ps inp N h hl hsm hpc hO hol hP hI hil hR
  · exact CpuRuns_few w c OA PA IA oc pc ic ps inp N h hl hsm hpc hO hol hP hI hil hR
theorem own : ownKnob Tryz.prog.godebug = none := by kernel_rfl
theorem laidOut : laidOutB Tryz.prog = true := by kernel_rfl
theorem door_met (os : Os) (args : Array Value) : laidMetH Tryz.prog Rows.cpuRunsUptoRow.laid ((World.doorLaid Tryz.prog 84 os).forCall (fun _ _ => 0) ⟨#[], args, []⟩).memory :=
  laidMetH_of_parts3 (fuel := 8) (laidMet_of_run' 8 (by kernel_rfl) (by kernel_rfl)) (by kernel_rfl) (by kernel_rfl)

set_option maxRecDepth 100000 in
set_option maxHeartbeats 1000000 in
theorem cpuRunsUpto_lifted (os : Os) (started : os.Started) (H : Type) (enc : TypeId × Value → H) (F : Stop.Interp) :
    ReturnsInHanded {} Tryz.checked os 3 .any (fun w args => ((Rows.OpenSpec.upto Rows.cpuRunsSpec).pre enc Tryz.prog Tryz.f3 [] false w args ∧ laidMetH Tryz.prog Rows.cpuRunsUptoRow.laid w) ∧ sizedMet enc Tryz.prog Tryz.f3 (Rows.OpenSpec.upto Rows.cpuRunsSpec) false w args)
      (((Rows.OpenSpec.upto Rows.cpuRunsSpec).at F).post enc Tryz.prog Tryz.f3 false true false false) := by
  refine returnsInHanded_of_cond_and (C := Tryz.checked) (s := Rows.OpenSpec.upto Rows.cpuRunsSpec) (k := Rows.uptoSmall) rfl (X := fun w _ => laidMetH Tryz.prog Rows.cpuRunsUptoRow.laid w) (fun _ _ _ hh h => h.of_heap hh) own started (by kernel_rfl) Tryz.func3
    (witness_cond (enc := enc) (C := Tryz.checked) (os := os) (s := Rows.OpenSpec.upto Rows.cpuRunsSpec) (k := Rows.uptoSmall) rfl (X := fun w _ => laidMetH Tryz.prog Rows.cpuRunsUptoRow.laid w) false (World.doorLaid Tryz.prog 84 os) #[.agg #[.int .u64 0, .int .u64 0, .int .u64 0, .int .u64 0, .int .u64 0, .int .u64 0, .int .u64 0, .int .u64 0, .int .u64 0, .int .u64 0, .int .u64 0, .int .u64 0, .int .u64 0, .int .u64 0, .int .u64 0, .int .u64 0, .int .u64 0, .int .u64 0, .int .u64 0, .int .u64 0, .int .u64 0, .int .u64 0, .int .u64 0, .int .u64 0, .int .u64 0, .int .u64 0, .int .u64 0, .int .u64 0, .int .u64 0, .int .u64 0, .int .u64 0, .int .u64 0, .int .u64 0, .int .i64 0, .bool false, .int .i64 0, .int .i64 0, .slice none 0 0, .int .i64 0, .slice none 0 0, .slice none 0 0, .int .i64 0]] 8 rfl (World.shaped_of_RefB (by kernel_rfl) (by kernel_rfl)) (by kernel_rfl) (by kernel_rfl) (by kernel_rfl) (door_met os _)) ?_
  intro W base args ds gs before hval0 hW hcnd hkk hsz0 hL _
  have hval : ∀ (j : Nat) t v, Tryz.f3.params[j]? = some t → args[j]? = some v → Value.okWide Tryz.prog W .any base t v := hval0
  have hW' := hW
  obtain ⟨p, q, hA0, hV, rfl, hfz, hnd⟩ := hW
  have hA : DataW.TrodAll enc Tryz.prog W 0 (fun _ => true) true Tryz.f3.params.toList args.toList ds p := hA0
  have hA1 := hA
  rw [Tryz.params3] at hA hval
  obtain ⟨v0, d0, rfl, rfl, h0⟩ := trodAll_one hA
  obtain ⟨rfl, rfl⟩ := trodVars_none hV
  rw [List.append_nil] at hW'
  have hsz : (DataW.weightsEach Tryz.prog [30] [d0]).all (fun x => decide (x ≤ reachBytes)) = true := hsz0
  have hwt0 : ∀ n ∈ d0.weights Tryz.prog 30, n ≤ reachBytes := fun n hn => by simpa using List.all_eq_true.1 hsz n (DataW.weights_mem_each (j := 0) rfl rfl n hn)
  obtain ⟨cs, rfl, -⟩ := okWide_struct Tryz.underlying30 (hval 0 30 v0 rfl rfl)
  obtain ⟨fuel0, hf0⟩ := h0
  obtain ⟨c, OA, PA, IA, oc, pc, ic, ps, inp, N, e0, hl, hsm, hpc, hO, hol, hob, hP, hI, hil⟩ := open_case hf0 hwt0
  have hbulk : Rows.uptoBulk d0 ≤ 1048576 := by
    have h2 : Rows.uptoBulkAll [d0] ≤ 1048576 := of_decide_eq_true hkk
    simp only [Rows.uptoBulkAll] at h2
    omega
  have e1 : cs = (caseC c OA PA IA oc pc ic ps.length inp.length N).toArray := by
    have e2 : cs.toList = caseC c OA PA IA oc pc ic ps.length inp.length N := e0
    rw [← e2]
  subst e1
  refine (CpuRuns_any W c OA PA IA oc pc ic ps inp N hl hsm hpc hO (Nat.le_trans hob (by show Rows.uptoBulk d0 ≤ _; omega)) hP hI (by omega) (rvRows_laid hL)).mono fun e W' ⟨he, hw⟩ => ?_
  subst he
  exact ⟨_, rfl, post_below (s := Rows.cpuRunsSpec) hW' hA1 laidOut (by rw [Tryz.params3]; intro t ht; simp only [List.mem_cons, List.not_mem_nil, or_false] at ht; rcases ht with rfl <;> exact ⟨by kernel_rfl, of_decide_eq_true (by kernel_rfl)⟩) hw rfl rfl rfl (fun _ _ _ => trodAll_mk1 (shut_bool Tryz.underlying4 _))⟩

theorem cpuRunsUpto_said : Rows.CpuRunsUptoSaid :=
  OpenClaim.holds_of_cond 3 Tryz.f3 rfl rfl rfl rfl rfl rfl rfl ⟨rfl, rfl, rfl, rfl, rfl⟩ rfl rfl rfl rfl rfl (by kernel_rfl) Tryz.func3 (by kernel_rfl)
    (of_decide_eq_true (by kernel_rfl)) (by unfold Func.isWrapper; first | (rw [if_pos (by decide +kernel)]; kernel_rfl) | (rw [if_neg (by decide +kernel)]; exact ⟨rfl, rfl⟩))
    (fun os started H enc _ F => cpuRunsUpto_lifted os started H enc F)

theorem cpuRunsUpto_holds : Rows.CpuRunsUptoCardSaid :=
  Claim7.holds_tied_plain_at .later [] [.data] true Rows.cpuRunsUptoCard.stood.harness false
    cpuRunsUpto_said (fun _ h => by cases h) (by kernel_rfl) (fun _ h => by cases h) cpuRunsUpto_row_tie rfl ⟨rfl, rfl⟩ (by kernel_rfl) rfl
    (fun f fn hf hfn => by
      obtain rfl : f = 3 := Option.some.inj ((show Tryz.prog.funcNamed "patina/patinalaw03.CpuRuns" = some 3 by kernel_rfl).symm.trans hf) |>.symm
      obtain rfl : fn = Tryz.f3 := (Option.some.inj (Tryz.func3.symm.trans hfn)).symm
      exact ⟨by kernel_rfl, fun j t ht => by
        rw [Tryz.params3] at ht
        have hm : t ∈ [30] := by simpa using Array.mem_of_getElem? ht
        have hall : ([30].all fun u => !Tryz.prog.wantsStandIn u) = true := by kernel_rfl
        exact (show Tryz.prog.wantsStandIn t = false by simpa using List.all_eq_true.1 hall t hm)⟩)
    (by kernel_rfl)
#print axioms cpuRunsUpto_holds
end Go.Proofs.YtemngapfnkokiaaGreatDoor
