/- patinalaw03.CpuNil: the walk: a machine that is nil. -/
import Derived.Test.YtemngapfnkokiaaDoorCpu
import Derived.Laws.Tables
import Derived.Laws.CopyOwn
namespace Go.Proofs
open Go Go.RowKit Go.Pat

theorem Step_nil (w : World) : Calls Tryd.prog 28 #[.pointer none] w fun e w' => e = .returned (.int .i64 30) ∧ w' = w := by
  go_enter Tryd.func28, Tryd.ntmps28
  go_wp2
  go_ret
  exact ⟨rfl, rfl⟩
theorem Run_nil (n : Int) (w : World) : Calls Tryd.prog 29 #[.pointer none, .int .i64 n] w fun e w' => e = .returned (.int .i64 0) ∧ w' = w := by
  go_enter Tryd.func29, Tryd.ntmps29
  go_wp2
  go_loopw [5] (fun i wr => i = .int .i64 0 ∧ wr = w) (fun _ _ => 0)
  case atStart => exact ⟨rfl, rfl⟩
  case round =>
    obtain ⟨rfl, rfl⟩ := hrel
    go_wp2
    go_ret
    exact ⟨rfl, rfl⟩
theorem cPages_nil (w : World) : Calls Tryd.prog 32 #[.pointer none] w fun e w' => e = .returned (.slice none 0 0) ∧ w' = w := by
  go_enter Tryd.func32, Tryd.ntmps32
  go_wp2
  go_ret
  exact ⟨rfl, rfl⟩
theorem Name_one (w : World) : Calls Tryd.prog 33 #[.int .i64 1] w fun e w' => e = .returned (.string ⟨#[108, 117, 105]⟩) ∧ Below w.heap.size w w' := by
  go_enter Tryd.func33, Tryd.ntmps33
  go_wp2
  go_ret
  exact ⟨rfl, (Below.refl _ _).alloc (Nat.le_refl _) _⟩

def cpuZ : Array Value := #[.int .u64 0, .int .u64 0, .int .u64 0, .int .u64 0, .int .u64 0, .int .u64 0, .int .u64 0, .int .u64 0, .int .u64 0, .int .u64 0, .int .u64 0, .int .u64 0, .int .u64 0, .int .u64 0, .int .u64 0, .int .u64 0, .int .u64 0, .int .u64 0, .int .u64 0, .int .u64 0, .int .u64 0, .int .u64 0, .int .u64 0, .int .u64 0, .int .u64 0, .int .u64 0, .int .u64 0, .int .u64 0, .int .u64 0, .int .u64 0, .int .u64 0, .int .u64 0, .int .u64 0, .int .i64 0, .bool false, .int .i64 0, .int .i64 0, .slice none 0 0, .int .i64 0]
theorem cpuZ_V : cpuV 0 = .agg cpuZ := rfl
theorem cpuZ_one : cpuZ.all (·.oneCell') = true := by simp [cpuZ, Value.oneCell']
theorem Tryd_sizeCpu : (Tryd.prog.info? 76).map (·.size) = some 39 := by kernel_rfl
theorem cpu_load (b : Nat) (cs : Array Value) (W : World) (hb : W.heap[b]? = some (.cells cs 76 (0, 0))) (hn : cs.size = 39) : (loadVar 76 ⟨b, 0, none⟩).run Tryd.prog W = .ok (.agg cs) W := by
  have := run_loadVar_mid (P := Tryd.prog) W b 0 76 cs.toList _ (fun j v hv => by rw [Nat.zero_add, cell_of_row _ _ j cs _ (0, 0) hb]; simpa using hv) Tryd.underlying76 rfl (by rw [Array.length_toList, hn]; exact Tryd_sizeCpu)
  simpa using this
theorem results_cpu1 (fn : Func) (hf : fn.results = #[.cell 2 76]) (tmps : Array Value) (b : Nat) (cs : Array Value) (W : World) (h2 : tmps[2]?.getD undef = .pointer (some ⟨b, 0, none⟩))
    (hb : W.heap[b]? = some (.cells cs 76 (0, 0))) (hn : cs.size = 39) : (results fn tmps).run Tryd.prog W = .ok (.agg cs) W := by
  have hl := cpu_load b cs W hb hn
  unfold results
  rw [hf]
  simp [h2, asAddr, Sem.run_bind, Sem.run_pure, hl]
set_option maxRecDepth 20000 in
set_option maxHeartbeats 4000000 in
theorem State_nil (w : World) : Calls Tryd.prog 31 #[.pointer none] w fun e w' => e = .returned (cpuV 0) ∧ Below w.heap.size w w' := by
  obtain ⟨W, hW⟩ : ∃ W : World, W = w.alloc (.cells cpuZ 76) := ⟨_, rfl⟩
  have hB : Below w.heap.size w W := by rw [hW]; exact (Below.refl _ _).alloc (Nat.le_refl _) _
  have h1 : W.heap[w.heap.size]? = some (.cells cpuZ 76 (0, 0)) := by rw [hW]; exact heap_alloc_new w _
  unfold cpuZ at hW
  have HW := Lib.hid hW
  clear hW
  go_enter Tryd.func31, Tryd.ntmps31
  go_upto_region 1 with fail
  rw [← HW.out]
  go_wp2_with (refine wpList_store_row (o := ⟨none, Op.store 76 (.tmp 2) (.tmp 6), _, _, _, _⟩) rfl 76 (.tmp 2) (.tmp 6) rfl w.heap.size cpuZ rfl rfl 76 _ h1 Tryd_sizeCpu rfl cpuZ_one ?_)
  have hX := setRow_heap W w.heap.size _ cpuZ _ _ h1
  refine bodyPost_ret (v := .agg cpuZ) (results_cpu1 _ rfl _ w.heap.size cpuZ _ rfl hX rfl) rfl ?_
  exact ⟨by rw [cpuZ_V], below_setRow hB (Nat.le_refl _) _⟩
set_option maxRecDepth 20000 in
set_option maxHeartbeats 4000000 in
theorem CpuNil_any (n : Int) (w : World) : Calls Tryd.prog 8 #[.int .i64 n] w fun e w' => e = .returned (.bool true) ∧ Below w.heap.size w w' := by
  go_enter Tryd.func8, Tryd.ntmps8
  go_wp2_with (first
    | (go_at_call 28; refine (Step_nil _).mono ?_; rintro e w' ⟨rfl, rfl⟩)
    | (go_at_call 29; refine (Run_nil _ _).mono ?_; rintro e w' ⟨rfl, rfl⟩))
  refine Calls.mono (State_nil _) ?_
  rintro e w1 ⟨rfl, hB1⟩
  go_wp2_with fail
  trace_state
  refine Calls.mono (pCpu_same _ 0) ?_
  rintro e w2 ⟨rfl, hB2⟩
  go_wp2_with (go_at_call 32; refine (cPages_nil _).mono ?_; rintro e w' ⟨rfl, rfl⟩)
  refine Calls.mono (Name_one _) ?_
  rintro e w3 ⟨rfl, hB3⟩
  go_wp2
  go_ret
  exact ⟨rfl, (hB1.trans (hB2.mono hB1.size)).trans (hB3.mono (Nat.le_trans hB1.size hB2.size))⟩
end Go.Proofs
