/- (*cpu.Machine).State: a copy of the state. -/
import Derived.Test.YtemngapfnkokiaaDoorNewM
import Derived.Test.YtemngapfnkokiaaDoorCpuNil
namespace Go.Proofs
open Go Go.RowKit Go.Pat
theorem mcells_range {w : World} {m p mb : Nat} {ov iv : Value} {s : Ms} (h : MachAt w m p mb ov iv s) : w.rangeAt m 0 (s.c.cells ov) := fun j v hv => by
  refine h.cell (0 + j) v ?_
  rw [Nat.zero_add, mcells_app, List.getElem?_append_left]
  · exact hv
  · rcases Nat.lt_or_ge j (s.c.cells ov).length with h | h
    · exact h
    · rw [List.getElem?_eq_none h] at hv; cases hv
theorem OwnB.one {w : World} {base : Nat} {v : Value} {l : List UInt8} (h : OwnB w base v l) : v.oneCell' = true := by
  obtain ⟨A, c, rfl, -⟩ := h.form
  rfl
def StateTo (s : Ms) (w : World) (e : Ending) (w' : World) : Prop := ∃ ov', e = .returned (.agg (s.c.cells ov').toArray) ∧ OwnB w' w.heap.size ov' s.c.out ∧ Below w.heap.size w w'
set_option maxRecDepth 20000 in
set_option maxHeartbeats 16000000 in
theorem State_any (w : World) (m p mb : Nat) (ov iv : Value) (s : Ms) (hM : MachAt w m p mb ov iv s) (hol : s.c.out.length ≤ 140737488355328) :
    Calls Tryd.prog 31 #[.pointer (some ⟨m, 0, none⟩)] w (StateTo s w) := by
  obtain ⟨OA, oc, hov, hbs⟩ := hM.out.form
  have hone : ov.oneCell' = true := hM.out.one
  obtain ⟨W, hW⟩ : ∃ W : World, W = w.alloc (.cells cpuZ 76) := ⟨_, rfl⟩
  obtain ⟨W2, hW2⟩ : ∃ W2 : World, W2 = W.alloc (.cells cpuZ 76) := ⟨_, rfl⟩
  obtain ⟨W3, hW3⟩ : ∃ W3 : World, W3 = W2.setRow W.heap.size (s.c.cells ov).toArray := ⟨_, rfl⟩
  have hB : Below w.heap.size w W := by rw [hW]; exact (Below.refl _ _).alloc (Nat.le_refl _) _
  have hB2 : Below w.heap.size w W2 := by rw [hW2]; exact hB.alloc hB.size _
  have hB3 : Below w.heap.size w W3 := by rw [hW3]; exact below_setRow hB2 hB.size _
  have hsz : (s.c.cells ov).toArray.size = 39 := by rw [List.size_toArray, ccells_len hM.len]
  have h2 : W2.heap[W.heap.size]? = some (.cells cpuZ 76 (0, 0)) := by rw [hW2]; exact heap_alloc_new W _
  have h20 : W2.heap[w.heap.size]? = some (.cells cpuZ 76 (0, 0)) := by rw [hW2, hW]; exact obj_alloc (heap_alloc_new w _)
  have hne : w.heap.size ≠ W.heap.size := by rw [hW, World.size_alloc]; omega
  have h3 : W3.heap[W.heap.size]? = some (.cells (s.c.cells ov).toArray 76 (0, 0)) := by rw [hW3]; exact setRow_heap W2 _ cpuZ _ _ _ h2
  have h30 : W3.heap[w.heap.size]? = some (.cells cpuZ 76 (0, 0)) := by rw [hW3, setRow_other W2 _ _ _ hne]; exact h20
  have a37 : W3.cell? ⟨W.heap.size, 37, none⟩ = some ov := (obj_cell h3 37).trans (by rw [List.getElem?_toArray]; exact cget_tail hM.len 4 (by omega))
  have hr := mcells_range (hM.below hB)
  have hszp : (Tryd.prog.info? 76).map (·.size) = some (s.c.cells ov).length := by rw [ccells_len hM.len]; exact Tryd_sizeCpu2
  have hszq : (Tryd.prog.info? 76).map (·.size) = some (s.c.cells ov).toArray.size := by rw [hsz]; exact Tryd_sizeCpu2
  have hold : cpuZ.size = (s.c.cells ov).toArray.size := by rw [hsz]; rfl
  have hlen := hM.len
  have HK := Lib.hid (And.intro hr (And.intro hszp (And.intro hszq (And.intro hold (And.intro h2 (And.intro h3 (And.intro h30 (And.intro (cells_oneA (c := s.c) hone) hbs))))))))
  unfold cpuZ at hW hW2
  have HW := Lib.hid hW
  have HW2 := Lib.hid hW2
  have HW3 := Lib.hid hW3
  have HO := Lib.hid hov
  have hWs : w.heap.size < W.heap.size := by rw [hW, World.size_alloc]; omega
  have hW3s : W.heap.size < W3.heap.size := lt_of_block h3
  clear hW hW2 hW3 hr hszp hszq hold h2 h3 h30 h20 hov hbs hone
  go_enter Tryd.func31, Tryd.ntmps31
  go_upto_region 3 with fail
  rw [← HW.out]
  go_wp2_with (first
    | refine wpList_load_want (op := ⟨some 10, _, _, _, _, _⟩) rfl 76 (.tmp 9) rfl m 0 rfl (s.c.cells ov) _ HK.out.1 Tryd.underlying76 rfl HK.out.2.1 ?_
    | (rw [← HW2.out]; refine wpList_store_row (o := ⟨none, Op.store 76 (.tmp 3) (.tmp 10), _, _, _, _⟩) rfl 76 (.tmp 3) (.tmp 10) rfl W.heap.size (s.c.cells ov).toArray rfl rfl 76 _ HK.out.2.2.2.2.1 HK.out.2.2.1 HK.out.2.2.2.1 HK.out.2.2.2.2.2.2.2.1 ?_; rw [← HW3.out])
    | (at_builtin; refine wpList_appB _ rfl _ _ rfl W3.heap.size _ [] rfl (OwnB.nil _ _) W3.heap.size OA s.c.out.length oc s.c.out HO.out rfl ?hr (by rw [List.length_nil, Nat.zero_add]; exact hol) (Nat.le_refl _) ?hk))
  case hr => exact (HK.out.2.2.2.2.2.2.2.2.below hB3).mono hB3.size
  case hk =>
    intro v' w4 hown hbel _
    obtain ⟨A4, c4, hv4, -⟩ := hown.form
    subst hv4
    have h4 := hbel W3 (Below.refl _ _)
    clear hbel
    have h43 : w4.heap[W.heap.size]? = some (.cells (s.c.cells ov).toArray 76 (0, 0)) := (h4.block _ hW3s).trans HK.out.2.2.2.2.2.1
    have h40 : w4.heap[w.heap.size]? = some (.cells cpuZ 76 (0, 0)) := (h4.block _ (Nat.lt_trans hWs hW3s)).trans HK.out.2.2.2.2.2.2.1
    have ce : w4.cell? ⟨W.heap.size, 37, none⟩ = some ov := (obj_cell h43 37).trans (by rw [List.getElem?_toArray]; exact cget_tail hlen 4 (by omega))
    have fz : w4.frozen? ⟨W.heap.size, 37, none⟩ = false := obj_frozen h43 37
    obtain ⟨W5, hW5⟩ : ∃ W5 : World, W5 = w4.setCell ⟨W.heap.size, 37, none⟩ (Value.slice A4 s.c.out.length c4) := ⟨_, rfl⟩
    have h53 : W5.heap[W.heap.size]? = some (.cells (s.c.cells (Value.slice A4 s.c.out.length c4)).toArray 76 (0, 0)) := by
      rw [hW5, obj_set h43 37 (Value.slice A4 s.c.out.length c4), List.setIfInBounds_toArray, cset_out hlen]
    have h50 : W5.heap[w.heap.size]? = some (.cells cpuZ 76 (0, 0)) := by rw [hW5, Below.heap_setCell w4 ⟨W.heap.size, 37, none⟩ (Value.slice A4 s.c.out.length c4) _ (Nat.ne_of_lt hWs)]; exact h40
    have hr5 : W5.rangeAt W.heap.size 0 (s.c.cells (Value.slice A4 s.c.out.length c4)) := fun j v hv => (obj_cell h53 (0 + j)).trans (by rw [Nat.zero_add, List.getElem?_toArray]; exact hv)
    have hB5 : Below w.heap.size w W5 := by rw [hW5]; exact (hB3.trans (h4.mono hB3.size)).setCell (Nat.le_of_lt hWs) _
    have hsz5 : (s.c.cells (Value.slice A4 s.c.out.length c4)).toArray.size = 39 := by rw [List.size_toArray, ccells_len hlen]
    have hszp5 : (Tryd.prog.info? 76).map (·.size) = some (s.c.cells (Value.slice A4 s.c.out.length c4)).length := by rw [ccells_len hlen]; exact Tryd_sizeCpu2
    have hszq5 : (Tryd.prog.info? 76).map (·.size) = some (s.c.cells (Value.slice A4 s.c.out.length c4)).toArray.size := by rw [hsz5]; exact Tryd_sizeCpu2
    have hold5 : cpuZ.size = (s.c.cells (Value.slice A4 s.c.out.length c4)).toArray.size := by rw [hsz5]; rfl
    have hone5 := cells_oneA (c := s.c) hown.one
    have HK5 := Lib.hid (And.intro hr5 (And.intro hszp5 (And.intro hszq5 (And.intro hold5 (And.intro h50 hone5)))))
    have HW5 := Lib.hid hW5
    have hown5 : OwnB W5 w.heap.size (Value.slice A4 s.c.out.length c4) s.c.out := by
      rw [hW5]
      refine OwnB.base (OwnB.keep hown fun g hg => Below.heap_setCell w4 ⟨W.heap.size, 37, none⟩ (Value.slice A4 s.c.out.length c4) g ?_) (Nat.le_of_lt (Nat.lt_trans hWs hW3s))
      have := (hown.block hg).1
      simp only; omega
    clear hW5 hr5 hszp5 hszq5 hold5 hone5
    go_wp2_with (first
      | (rw [← HW5.out]; refine wpList_load_want (op := ⟨some 15, _, _, _, _, _⟩) rfl 76 (.tmp 3) rfl W.heap.size 0 rfl (s.c.cells (Value.slice A4 s.c.out.length c4)) _ HK5.out.1 Tryd.underlying76 rfl HK5.out.2.1 ?_)
      | refine wpList_store_row (o := ⟨none, Op.store 76 (.tmp 2) (.tmp 15), _, _, _, _⟩) rfl 76 (.tmp 2) (.tmp 15) rfl w.heap.size (s.c.cells (Value.slice A4 s.c.out.length c4)).toArray rfl rfl 76 _ HK5.out.2.2.2.2.1 HK5.out.2.2.1 HK5.out.2.2.2.1 HK5.out.2.2.2.2.2 ?_)
    have hX := setRow_heap W5 w.heap.size cpuZ (s.c.cells (Value.slice A4 s.c.out.length c4)).toArray _ _ h50
    refine bodyPost_ret (v := .agg (s.c.cells (Value.slice A4 s.c.out.length c4)).toArray) (results_cpu1 _ rfl _ w.heap.size (s.c.cells (Value.slice A4 s.c.out.length c4)).toArray _ rfl hX hsz5) rfl ?_
    refine ⟨(Value.slice A4 s.c.out.length c4), rfl, OwnB.keep hown5 fun g hg => ?_, below_setRow hB5 (Nat.le_refl _) _⟩
    refine setRow_other W5 _ _ _ ?_
    have := (hown.block hg).1
    omega
end Go.Proofs
