/- patina/rv.of, register, number, Check: an instruction is right just where patinaref01.Right says so. -/
import Derived.Test.YtlhenglopnipaaaGreatDoorForms
import Derived.Test.YtlhenglopnipaaaGreatDoorWords
import Derived.Test.YtlhenglopnipaaaGreatDoorDecI
namespace Go.Pat
open Go Go.RowKit
/-- is a number in a form's range, as patina/rv.number says? -/
def numB (f : Nat) (op n : Int) : Bool :=
  if f = 73 ∨ f = 83 then decide (-2048 ≤ n) && decide (n ≤ 2047)
  else if f = 66 then (decide (-4096 ≤ n) && decide (n ≤ 4094)) && (n.tmod 2 == 0)
  else if f = 74 then (decide (-1048576 ≤ n) && decide (n ≤ 1048574)) && (n.tmod 2 == 0)
  else if f = 85 then decide (-524288 ≤ n) && decide (n ≤ 524287)
  else if f = 72 then (decide (0 ≤ n) && decide (n ≤ 63)) && (decide (op < 32) || decide (n < 32))
  else n == 0
def formsL : List Nat := [0, 85, 74, 73, 66, 83, 72, 82, 78]
theorem rvRow_form (op : Nat) : (rvRow op).1 ∈ formsL := by
  by_cases h : op < 66
  · exact (show ∀ k, k < 66 → (rvRow k).1 ∈ formsL by decide) op h
  · unfold rvRow
    rw [List.getD_eq_getElem?_getD, List.getElem?_eq_none (show rowsT.length ≤ op by show 66 ≤ _; omega)]
    decide
end Go.Pat
namespace Go.Proofs
open Go Go.RowKit Go.Pat
theorem rvRegister_any (r : Int) (nm : Bool) (w : World) : Calls Tryz.prog 98 #[.bool nm, .int .i64 r] w fun e w' => e = .returned (.bool (regB r nm)) ∧ w' = w := by
  cases nm
  · cases t1 : (r == 0)
    all_goals
      go_enter Tryz.func98, Tryz.ntmps98
      go_wp2
      go_ret
      exact ⟨by simp [regB, t1], rfl⟩
  · rw [show regB r true = (decide (0 ≤ r) && decide (r ≤ 31)) from rfl]
    by_cases h0 : r = 0
    · subst h0
      go_enter Tryz.func98, Tryz.ntmps98
      go_wp2
      go_ret
      exact ⟨rfl, rfl⟩
    · have t1 : (r == 0) = false := by simpa using h0
      by_cases h1 : 0 < r
      · have t2 : decide (0 < r) = true := decide_eq_true h1
        by_cases h2 : r < 32
        · have t3 : decide (r < 32) = true := decide_eq_true h2
          have hv := Lib.hid (show (decide (0 ≤ r) && decide (r ≤ 31)) = true by simp; omega)
          clear h0
          go_enter Tryz.func98, Tryz.ntmps98
          go_wp2
          go_ret
          exact ⟨by rw [hv.out]; rfl, rfl⟩
        · have t3 : decide (r < 32) = false := decide_eq_false h2
          have hv := Lib.hid (show (decide (0 ≤ r) && decide (r ≤ 31)) = false by simp; omega)
          clear h0
          go_enter Tryz.func98, Tryz.ntmps98
          go_wp2
          go_ret
          exact ⟨by rw [hv.out]; rfl, rfl⟩
      · have t2 : decide (0 < r) = false := decide_eq_false h1
        have hv := Lib.hid (show (decide (0 ≤ r) && decide (r ≤ 31)) = false by simp; omega)
        clear h0
        go_enter Tryz.func98, Tryz.ntmps98
        go_wp2
        go_ret
        exact ⟨by rw [hv.out]; rfl, rfl⟩
def NumTo (f : Nat) (op n : Int) (w : World) (e : Ending) (w' : World) : Prop := e = .returned (.bool (numB f op n)) ∧ Below w.heap.size w w'
theorem form3b (w : World) (a b c : Obj) : Below w.heap.size w (((w.alloc a).alloc b).alloc c) := (form2 w a b).alloc (by rw [World.size_alloc, World.size_alloc]; omega) _
set_option maxHeartbeats 1000000 in
theorem rvNumber_73 (oc f3 f7 op n : Int) (w : World) : Calls Tryz.prog 99 #[.agg #[.int .u8 73, .int .u32 oc, .int .u32 f3, .int .u32 f7], .int .i64 op, .int .i64 n] w (NumTo 73 op n w) := by
  unfold NumTo
  rw [show numB 73 op n = (decide (-2048 ≤ n) && decide (n ≤ 2047)) from rfl]
  cases t1 : decide (-2048 ≤ n)
  · go_enter Tryz.func99, Tryz.ntmps99
    go_wp2
    go_ret
    exact ⟨rfl, by first | exact form1 w _ | exact form2 w _ _ | exact form3b w _ _ _⟩
  · cases t2 : decide (n ≤ 2047)
    · go_enter Tryz.func99, Tryz.ntmps99
      go_wp2
      go_ret
      exact ⟨rfl, by first | exact form1 w _ | exact form2 w _ _ | exact form3b w _ _ _⟩
    · go_enter Tryz.func99, Tryz.ntmps99
      go_wp2
      go_ret
      exact ⟨rfl, by first | exact form1 w _ | exact form2 w _ _ | exact form3b w _ _ _⟩
set_option maxHeartbeats 1000000 in
theorem rvNumber_83 (oc f3 f7 op n : Int) (w : World) : Calls Tryz.prog 99 #[.agg #[.int .u8 83, .int .u32 oc, .int .u32 f3, .int .u32 f7], .int .i64 op, .int .i64 n] w (NumTo 83 op n w) := by
  unfold NumTo
  rw [show numB 83 op n = (decide (-2048 ≤ n) && decide (n ≤ 2047)) from rfl]
  cases t1 : decide (-2048 ≤ n)
  · go_enter Tryz.func99, Tryz.ntmps99
    go_wp2
    go_ret
    exact ⟨rfl, by first | exact form1 w _ | exact form2 w _ _ | exact form3b w _ _ _⟩
  · cases t2 : decide (n ≤ 2047)
    · go_enter Tryz.func99, Tryz.ntmps99
      go_wp2
      go_ret
      exact ⟨rfl, by first | exact form1 w _ | exact form2 w _ _ | exact form3b w _ _ _⟩
    · go_enter Tryz.func99, Tryz.ntmps99
      go_wp2
      go_ret
      exact ⟨rfl, by first | exact form1 w _ | exact form2 w _ _ | exact form3b w _ _ _⟩
set_option maxHeartbeats 1000000 in
theorem rvNumber_66 (oc f3 f7 op n : Int) (w : World) : Calls Tryz.prog 99 #[.agg #[.int .u8 66, .int .u32 oc, .int .u32 f3, .int .u32 f7], .int .i64 op, .int .i64 n] w (NumTo 66 op n w) := by
  unfold NumTo
  rw [show numB 66 op n = ((decide (-4096 ≤ n) && decide (n ≤ 4094)) && (n.tmod 2 == 0)) from rfl]
  cases t1 : decide (-4096 ≤ n)
  · go_enter Tryz.func99, Tryz.ntmps99
    go_wp2
    go_ret
    exact ⟨rfl, by first | exact form1 w _ | exact form2 w _ _ | exact form3b w _ _ _⟩
  · cases t2 : decide (n ≤ 4094)
    · go_enter Tryz.func99, Tryz.ntmps99
      go_wp2
      go_ret
      exact ⟨rfl, by first | exact form1 w _ | exact form2 w _ _ | exact form3b w _ _ _⟩
    · cases t3 : (n.tmod 2 == 0)
      · go_enter Tryz.func99, Tryz.ntmps99
        go_wp2
        go_ret
        exact ⟨rfl, by first | exact form1 w _ | exact form2 w _ _ | exact form3b w _ _ _⟩
      · go_enter Tryz.func99, Tryz.ntmps99
        go_wp2
        go_ret
        exact ⟨rfl, by first | exact form1 w _ | exact form2 w _ _ | exact form3b w _ _ _⟩
set_option maxHeartbeats 1000000 in
theorem rvNumber_74 (oc f3 f7 op n : Int) (w : World) : Calls Tryz.prog 99 #[.agg #[.int .u8 74, .int .u32 oc, .int .u32 f3, .int .u32 f7], .int .i64 op, .int .i64 n] w (NumTo 74 op n w) := by
  unfold NumTo
  rw [show numB 74 op n = ((decide (-1048576 ≤ n) && decide (n ≤ 1048574)) && (n.tmod 2 == 0)) from rfl]
  cases t1 : decide (-1048576 ≤ n)
  · go_enter Tryz.func99, Tryz.ntmps99
    go_wp2
    go_ret
    exact ⟨rfl, by first | exact form1 w _ | exact form2 w _ _ | exact form3b w _ _ _⟩
  · cases t2 : decide (n ≤ 1048574)
    · go_enter Tryz.func99, Tryz.ntmps99
      go_wp2
      go_ret
      exact ⟨rfl, by first | exact form1 w _ | exact form2 w _ _ | exact form3b w _ _ _⟩
    · cases t3 : (n.tmod 2 == 0)
      · go_enter Tryz.func99, Tryz.ntmps99
        go_wp2
        go_ret
        exact ⟨rfl, by first | exact form1 w _ | exact form2 w _ _ | exact form3b w _ _ _⟩
      · go_enter Tryz.func99, Tryz.ntmps99
        go_wp2
        go_ret
        exact ⟨rfl, by first | exact form1 w _ | exact form2 w _ _ | exact form3b w _ _ _⟩
set_option maxHeartbeats 1000000 in
theorem rvNumber_85 (oc f3 f7 op n : Int) (w : World) : Calls Tryz.prog 99 #[.agg #[.int .u8 85, .int .u32 oc, .int .u32 f3, .int .u32 f7], .int .i64 op, .int .i64 n] w (NumTo 85 op n w) := by
  unfold NumTo
  rw [show numB 85 op n = (decide (-524288 ≤ n) && decide (n ≤ 524287)) from rfl]
  cases t1 : decide (-524288 ≤ n)
  · go_enter Tryz.func99, Tryz.ntmps99
    go_wp2
    go_ret
    exact ⟨rfl, by first | exact form1 w _ | exact form2 w _ _ | exact form3b w _ _ _⟩
  · cases t2 : decide (n ≤ 524287)
    · go_enter Tryz.func99, Tryz.ntmps99
      go_wp2
      go_ret
      exact ⟨rfl, by first | exact form1 w _ | exact form2 w _ _ | exact form3b w _ _ _⟩
    · go_enter Tryz.func99, Tryz.ntmps99
      go_wp2
      go_ret
      exact ⟨rfl, by first | exact form1 w _ | exact form2 w _ _ | exact form3b w _ _ _⟩
set_option maxHeartbeats 1000000 in
theorem rvNumber_0 (oc f3 f7 op n : Int) (w : World) : Calls Tryz.prog 99 #[.agg #[.int .u8 0, .int .u32 oc, .int .u32 f3, .int .u32 f7], .int .i64 op, .int .i64 n] w (NumTo 0 op n w) := by
  unfold NumTo
  rw [show numB 0 op n = (n == 0) from rfl]
  cases t1 : (n == 0)
  · go_enter Tryz.func99, Tryz.ntmps99
    go_wp2
    go_ret
    exact ⟨rfl, by first | exact form1 w _ | exact form2 w _ _ | exact form3b w _ _ _⟩
  · go_enter Tryz.func99, Tryz.ntmps99
    go_wp2
    go_ret
    exact ⟨rfl, by first | exact form1 w _ | exact form2 w _ _ | exact form3b w _ _ _⟩
set_option maxHeartbeats 1000000 in
theorem rvNumber_82 (oc f3 f7 op n : Int) (w : World) : Calls Tryz.prog 99 #[.agg #[.int .u8 82, .int .u32 oc, .int .u32 f3, .int .u32 f7], .int .i64 op, .int .i64 n] w (NumTo 82 op n w) := by
  unfold NumTo
  rw [show numB 82 op n = (n == 0) from rfl]
  cases t1 : (n == 0)
  · go_enter Tryz.func99, Tryz.ntmps99
    go_wp2
    go_ret
    exact ⟨rfl, by first | exact form1 w _ | exact form2 w _ _ | exact form3b w _ _ _⟩
  · go_enter Tryz.func99, Tryz.ntmps99
    go_wp2
    go_ret
    exact ⟨rfl, by first | exact form1 w _ | exact form2 w _ _ | exact form3b w _ _ _⟩
set_option maxHeartbeats 1000000 in
theorem rvNumber_78 (oc f3 f7 op n : Int) (w : World) : Calls Tryz.prog 99 #[.agg #[.int .u8 78, .int .u32 oc, .int .u32 f3, .int .u32 f7], .int .i64 op, .int .i64 n] w (NumTo 78 op n w) := by
  unfold NumTo
  rw [show numB 78 op n = (n == 0) from rfl]
  cases t1 : (n == 0)
  · go_enter Tryz.func99, Tryz.ntmps99
    go_wp2
    go_ret
    exact ⟨rfl, by first | exact form1 w _ | exact form2 w _ _ | exact form3b w _ _ _⟩
  · go_enter Tryz.func99, Tryz.ntmps99
    go_wp2
    go_ret
    exact ⟨rfl, by first | exact form1 w _ | exact form2 w _ _ | exact form3b w _ _ _⟩
set_option maxHeartbeats 1000000 in
theorem rvNumber_72 (oc f3 f7 op n : Int) (w : World) : Calls Tryz.prog 99 #[.agg #[.int .u8 72, .int .u32 oc, .int .u32 f3, .int .u32 f7], .int .i64 op, .int .i64 n] w (NumTo 72 op n w) := by
  unfold NumTo
  rw [show numB 72 op n = ((decide (0 ≤ n) && decide (n ≤ 63)) && (decide (op < 32) || decide (n < 32))) from rfl]
  cases t1 : decide (0 ≤ n)
  · go_enter Tryz.func99, Tryz.ntmps99
    go_wp2
    go_ret
    exact ⟨rfl, by first | exact form1 w _ | exact form2 w _ _ | exact form3b w _ _ _⟩
  · cases t2 : decide (n ≤ 63)
    · go_enter Tryz.func99, Tryz.ntmps99
      go_wp2
      go_ret
      exact ⟨rfl, by first | exact form1 w _ | exact form2 w _ _ | exact form3b w _ _ _⟩
    · cases t3 : decide (op < 32)
      · cases t4 : decide (n < 32)
        all_goals
          go_enter Tryz.func99, Tryz.ntmps99
          go_wp2
          go_ret
          exact ⟨rfl, by first | exact form1 w _ | exact form2 w _ _ | exact form3b w _ _ _⟩
      · go_enter Tryz.func99, Tryz.ntmps99
        go_wp2
        go_ret
        exact ⟨rfl, by first | exact form1 w _ | exact form2 w _ _ | exact form3b w _ _ _⟩
theorem rvNumber_any (f : Nat) (hf : f ∈ formsL) (oc f3 f7 op n : Int) (w : World) : Calls Tryz.prog 99 #[.agg #[.int .u8 (f : Int), .int .u32 oc, .int .u32 f3, .int .u32 f7], .int .i64 op, .int .i64 n] w (NumTo f op n w) := by
  simp only [formsL, List.mem_cons, List.not_mem_nil, or_false] at hf
  rcases hf with rfl | rfl | rfl | rfl | rfl | rfl | rfl | rfl | rfl
  · exact rvNumber_0 oc f3 f7 op n w
  · exact rvNumber_85 oc f3 f7 op n w
  · exact rvNumber_74 oc f3 f7 op n w
  · exact rvNumber_73 oc f3 f7 op n w
  · exact rvNumber_66 oc f3 f7 op n w
  · exact rvNumber_83 oc f3 f7 op n w
  · exact rvNumber_72 oc f3 f7 op n w
  · exact rvNumber_82 oc f3 f7 op n w
  · exact rvNumber_78 oc f3 f7 op n w

theorem num_imm (op : Nat) (n : Int) (h1 : 1 ≤ op) (h2 : op < 66) : numB (rvRow op).1 (op : Int) n = immB1 (formR op).1 n := by
  have key : (show Prop from ∀ k, k < 65 → ((rvRow (k + 1)).1 = (formR (k + 1)).1 ∧ ((rvRow (k + 1)).1 = 72 → k + 1 < 32) ∧ (formR (k + 1)).1 ≠ 104) ∨ ((rvRow (k + 1)).1 = 72 ∧ (formR (k + 1)).1 = 104 ∧ 32 ≤ k + 1)) := by decide
  obtain ⟨k, rfl⟩ : ∃ k, op = k + 1 := ⟨op - 1, by omega⟩
  rcases key k (by omega) with ⟨e, h, h4⟩ | ⟨e1, e2, h⟩
  · rw [e] at h ⊢
    generalize (formR (k + 1)).1 = l at *
    unfold numB immB1
    simp only [tmod2]
    by_cases h72 : l = 72
    · subst h72
      have h9 := h rfl
      have : decide (((k + 1 : Nat) : Int) < 32) = true := decide_eq_true (by omega)
      simp
      intro _ _
      left
      omega
    · simp [h72, h4]
  · rw [e1, e2]
    have : decide (((k + 1 : Nat) : Int) < 32) = false := decide_eq_false (by omega)
    simp only [numB, immB1, this, Bool.false_or, Nat.reduceEqDiff, if_false, if_true, or_self]
    rw [Bool.eq_iff_iff]
    simp only [Bool.and_eq_true, decide_eq_true_eq]
    omega
/-- the error of an instruction that is not right. -/
def insE (op rd a b n : Int) : Int := if rightI op rd a b n then 0 else 11
theorem has_eq (op : Nat) (h2 : op < 66) : hasD (rvRow op).1 = hasD1 (formR op).1 ∧ has1 (rvRow op).1 = has11 (formR op).1 ∧ has2 (rvRow op).1 = has21 (formR op).1 ∧ (1 ≤ op → (formR op).1 ≠ 0) :=
  (show ∀ k, k < 66 → hasD (rvRow k).1 = hasD1 (formR k).1 ∧ has1 (rvRow k).1 = has11 (formR k).1 ∧ has2 (rvRow k).1 = has21 (formR k).1 ∧ (1 ≤ k → (formR k).1 ≠ 0) by decide) op h2
theorem rightI_in (op : Nat) (rd a b n : Int) (h1 : 1 ≤ op) (h2 : op < 66) : rightI op rd a b n = (((regB rd (hasD (rvRow op).1) && regB a (has1 (rvRow op).1)) && regB b (has2 (rvRow op).1)) && numB (rvRow op).1 op n) := by
  obtain ⟨e1, e2, e3, e4⟩ := has_eq op h2
  unfold rightI formZ
  rw [Int.toNat_natCast, e1, e2, e3, num_imm op n h1 h2]
  have h5 := e4 h1
  have h6 : (((formR op).1 : Int) != 0) = true := by rw [bne_iff_ne]; omega
  rw [h6, Bool.true_and]
theorem rightI_out (op rd a b n : Int) (h : op < 1 ∨ 65 < op) : rightI op rd a b n = false := by
  have e : (formZ op).1 = 0 := by
    unfold formZ
    by_cases h1 : op < 1
    · rw [show op.toNat = 0 by omega]; rfl
    · unfold formR
      rw [List.getD_eq_getElem?_getD, List.getElem?_eq_none (show formsT.length ≤ op.toNat by show 66 ≤ _; omega)]
      rfl
  unfold rightI
  rw [e]
  simp
def rowV (op : Int) : Value := .agg #[.int .u8 ((rvRow op.toNat).1 : Int), .int .u32 ((rvRow op.toNat).2.1 : Int), .int .u32 ((rvRow op.toNat).2.2.1 : Int), .int .u32 ((rvRow op.toNat).2.2.2 : Int)]
theorem rvRow_out (op : Int) (h : op < 1 ∨ 65 < op) : rvRow op.toNat = (0, 0, 0, 0) := by
  by_cases h1 : op < 1
  · rw [show op.toNat = 0 by omega]; rfl
  · unfold rvRow
    rw [List.getD_eq_getElem?_getD, List.getElem?_eq_none (show rowsT.length ≤ op.toNat by show 66 ≤ _; omega)]
    rfl
def z4 : Array Value := #[.int .u8 0, .int .u32 0, .int .u32 0, .int .u32 0]
theorem row_load (b : Nat) (cs : Array Value) (W : World) (hb : W.heap[b]? = some (.cells cs 152 (0, 0))) (hn : cs.size = 4) : (loadVar 152 ⟨b, 0, none⟩).run Tryz.prog W = .ok (.agg cs) W := by
  have := run_loadVar_mid (P := Tryz.prog) W b 0 152 cs.toList _ (fun j v hv => by rw [Nat.zero_add, cell_of_row _ _ j cs _ (0, 0) hb]; simpa using hv) Tryz.underlying152 rfl (by rw [Array.length_toList, hn]; exact Tryz_sizeRow)
  simpa using this
theorem results_row2 (fn : Func) (hf : fn.results = #[.cell 2 152, .tmp 3]) (tmps : Array Value) (b : Nat) (cs : Array Value) (W : World) (v3 : Value) (h2 : tmps[2]?.getD undef = .pointer (some ⟨b, 0, none⟩)) (h3 : tmps[3]?.getD undef = v3)
    (hb : W.heap[b]? = some (.cells cs 152 (0, 0))) (hn : cs.size = 4) : (results fn tmps).run Tryz.prog W = .ok (.tuple #[.agg cs, v3]) W := by
  have hl := row_load b cs W hb hn
  unfold results
  rw [hf]
  simp [h2, h3, asAddr, hl]
theorem rvOf_out (op : Int) (w : World) (h : op < 1 ∨ 65 < op) : Calls Tryz.prog 87 #[.int .i64 op] w fun e w' => e = .returned (.tuple #[.agg z4, .bool false]) ∧ Below w.heap.size w w' := by
  rcases h with h | h
  · have t1 : decide (op < 1) = true := decide_eq_true h
    go_enter Tryz.func87, Tryz.ntmps87
    go_wp2
    have hX : (w.alloc (.cells z4 152)).heap[w.heap.size]? = some (.cells z4 152 (0, 0)) := heap_alloc_new w _
    exact bodyPost_ret (v := .tuple #[.agg z4, .bool false]) (results_row2 _ rfl _ w.heap.size z4 _ (.bool false) rfl rfl hX rfl) rfl ⟨rfl, form1 w _⟩
  · have t1 : decide (op < 1) = false := decide_eq_false (by omega)
    have t2 : decide (65 < op) = true := decide_eq_true h
    go_enter Tryz.func87, Tryz.ntmps87
    go_wp2
    have hX : (w.alloc (.cells z4 152)).heap[w.heap.size]? = some (.cells z4 152 (0, 0)) := heap_alloc_new w _
    exact bodyPost_ret (v := .tuple #[.agg z4, .bool false]) (results_row2 _ rfl _ w.heap.size z4 _ (.bool false) rfl rfl hX rfl) rfl ⟨rfl, form1 w _⟩
set_option maxRecDepth 20000 in
set_option maxHeartbeats 1000000 in
theorem rvOf_in (op : Nat) (w : World) (hR : RvRows w) (h1 : 1 ≤ op) (h2 : op < 66) : Calls Tryz.prog 87 #[.int .i64 (op : Int)] w fun e w' => e = .returned (.tuple #[rowV (op : Int), .bool true]) ∧ Below w.heap.size w w' := by
  have t1 : decide ((op : Int) < 1) = false := decide_eq_false (by omega)
  have t2 : decide (65 < (op : Int)) = false := decide_eq_false (by omega)
  have hi : (op : Int) < 66 := by omega
  unfold rowV
  rw [Int.toNat_natCast]
  have hr := (hR.below (form1 w (.cells z4 152))).2 op h2
  generalize ((rvRow op).1 : Int) = a at *
  generalize ((rvRow op).2.1 : Int) = b at *
  generalize ((rvRow op).2.2.1 : Int) = c at *
  generalize ((rvRow op).2.2.2 : Int) = d at *
  go_enter Tryz.func87, Tryz.ntmps87
  go_wp2_with (first
    | refine wpList_load_want (op := ⟨some 13, _, _, _, _, _⟩) rfl 152 (.tmp 12) rfl 0 (op * 4) rfl _ _ hr Tryz.underlying152 rfl Tryz_sizeRow ?_
    | refine wpList_store_rowTo (o := ⟨none, Op.store 152 (.tmp 2) (.tmp 13), _, _, _, _⟩) rfl 152 (.tmp 2) (.tmp 13) rfl rfl w.heap.size #[.int .u8 a, .int .u32 b, .int .u32 c, .int .u32 d] rfl rfl 152 _ (heap_alloc_new w _) Tryz_sizeRow rfl rfl ?_)
  have hX : (w.alloc (.cells #[.int .u8 a, .int .u32 b, .int .u32 c, .int .u32 d] 152)).heap[w.heap.size]? = some (.cells #[.int .u8 a, .int .u32 b, .int .u32 c, .int .u32 d] 152 (0, 0)) := heap_alloc_new w _
  exact bodyPost_ret (v := .tuple #[.agg #[.int .u8 a, .int .u32 b, .int .u32 c, .int .u32 d], .bool true]) (results_row2 _ rfl _ w.heap.size _ _ (.bool true) rfl rfl hX rfl) rfl ⟨rfl, form1 w _⟩
def CheckTo (op rd a b n : Int) (w : World) (e : Ending) (w' : World) : Prop := e = .returned (.int .i64 (insE op rd a b n)) ∧ Below w.heap.size w w'
set_option maxRecDepth 20000 in
set_option maxHeartbeats 4000000 in
theorem rvCheck_out (op rd a b n : Int) (w : World) (h : op < 1 ∨ 65 < op) : Calls Tryz.prog 79 #[.agg #[.int .i64 op, .int .i64 rd, .int .i64 a, .int .i64 b, .int .i64 n]] w (CheckTo op rd a b n w) := by
  have hv := Lib.hid (show insE op rd a b n = 11 by unfold insE; rw [rightI_out op rd a b n h]; rfl)
  have HO := Lib.hid (fun W => rvOf_out op W h)
  have HH := Lib.hid (fun W => (rvHas_any 0 W : Calls Tryz.prog 97 #[.int .u8 0] W fun e w' => e = .returned (.tuple #[.bool false, .bool false, .bool false]) ∧ w' = W))
  clear h
  go_enter Tryz.func79, Tryz.ntmps79
  go_wp2_with fail
  refine Calls.mono (HO.out _) ?_
  rintro e w1 ⟨rfl, hB1⟩
  have hB0 : Below w.heap.size w (w.alloc (.cells #[.int .i64 op, .int .i64 rd, .int .i64 a, .int .i64 b, .int .i64 n] 26)) := form1 w _
  have hBw := hB0.trans (hB1.mono hB0.size)
  clear hB0 hB1
  unfold z4
  go_wp2_with fail
  refine Calls.mono (HH.out _) ?_
  rintro e w' ⟨rfl, rfl⟩
  go_wp2
  go_ret
  exact ⟨by rw [hv.out]; rfl, hBw.alloc hBw.size _⟩
set_option maxRecDepth 20000 in
set_option maxHeartbeats 8000000 in
theorem rvCheck_in (op : Nat) (rd a b n : Int) (w : World) (hR : RvRows w) (h1 : 1 ≤ op) (h2 : op < 66) : Calls Tryz.prog 79 #[.agg #[.int .i64 op, .int .i64 rd, .int .i64 a, .int .i64 b, .int .i64 n]] w (CheckTo op rd a b n w) := by
  unfold CheckTo
  obtain ⟨v, hv⟩ : ∃ v, v = insE (op : Int) rd a b n := ⟨_, rfl⟩
  rw [← hv]
  unfold insE at hv
  rw [rightI_in op rd a b n h1 h2] at hv
  have hB0 : Below w.heap.size w (w.alloc (.cells #[.int .i64 op, .int .i64 rd, .int .i64 a, .int .i64 b, .int .i64 n] 26)) := form1 w _
  have hO := rvOf_in op _ (hR.below hB0) h1 h2
  have hf := rvRow_form op
  have HH := Lib.hid (fun W => rvHas_any (rvRow op).1 W)
  have HG := Lib.hid (fun r nm W => rvRegister_any r nm W)
  have HN := Lib.hid (fun oc f3 f7 W => rvNumber_any (rvRow op).1 hf oc f3 f7 op n W)
  unfold NumTo at HN
  unfold rowV at hO
  rw [Int.toNat_natCast] at hO
  generalize (rvRow op).2.1 = oc at *
  generalize (rvRow op).2.2.1 = f3 at *
  generalize (rvRow op).2.2.2 = f7 at *
  generalize numB (rvRow op).1 op n = d4 at *
  generalize (rvRow op).1 = f at *
  generalize hasD f = d1 at *
  generalize has1 f = d2 at *
  generalize has2 f = d3 at *
  clear hf hR
  have HV := Lib.hid hv
  clear hv
  have HO := Lib.hid hO
  clear hO
  go_enter Tryz.func79, Tryz.ntmps79
  go_wp2_with fail
  refine Calls.mono HO.out ?_
  rintro e w1 ⟨rfl, hB1⟩
  have hBw := hB0.trans (hB1.mono hB0.size)
  have hb1 : w1.heap[w.heap.size]? = some (.cells #[.int .i64 op, .int .i64 rd, .int .i64 a, .int .i64 b, .int .i64 n] 26 (0, 0)) := (hB1.block _ (by rw [World.size_alloc]; omega)).trans (heap_alloc_new w _)
  have x0 : w1.cell? ⟨w.heap.size, 0, none⟩ = some (.int .i64 op) := (obj_cell hb1 0).trans rfl
  have x1 : w1.cell? ⟨w.heap.size, 1, none⟩ = some (.int .i64 rd) := (obj_cell hb1 1).trans rfl
  have x2 : w1.cell? ⟨w.heap.size, 2, none⟩ = some (.int .i64 a) := (obj_cell hb1 2).trans rfl
  have x3 : w1.cell? ⟨w.heap.size, 3, none⟩ = some (.int .i64 b) := (obj_cell hb1 3).trans rfl
  have x4 : w1.cell? ⟨w.heap.size, 4, none⟩ = some (.int .i64 n) := (obj_cell hb1 4).trans rfl
  have hz : w.heap.size < w1.heap.size := by have := hB1.size; rw [World.size_alloc] at this; omega
  clear hb1 hB0 hB1
  cases t1 : regB rd d1
  · go_wp2_with (first
      | (go_at_call 97; (with_reducible refine (HH.out _).mono ?_); rintro e w' ⟨rfl, rfl⟩)
      | (go_at_call 98; (with_reducible refine (HG.out _ _ _).mono ?_); rintro e w' ⟨rfl, rfl⟩)
      | (go_at_call 99; (with_reducible refine (HN.out _ _ _ _).mono ?_); rintro e w' ⟨rfl, hB9⟩))
    go_ret
    exact ⟨by first | (rw [HV.out, if_neg (by simp [t1])]; rfl) | (rw [HV.out, if_pos (by simp [t1])]; rfl), hBw.alloc hBw.size _⟩
  · cases t2 : regB a d2
    · go_wp2_with (first
        | (go_at_call 97; (with_reducible refine (HH.out _).mono ?_); rintro e w' ⟨rfl, rfl⟩)
        | (go_at_call 98; (with_reducible refine (HG.out _ _ _).mono ?_); rintro e w' ⟨rfl, rfl⟩)
        | (go_at_call 99; (with_reducible refine (HN.out _ _ _ _).mono ?_); rintro e w' ⟨rfl, hB9⟩))
      go_ret
      exact ⟨by first | (rw [HV.out, if_neg (by simp [t1, t2])]; rfl) | (rw [HV.out, if_pos (by simp [t1, t2])]; rfl), hBw.alloc hBw.size _⟩
    · cases t3 : regB b d3
      · go_wp2_with (first
          | (go_at_call 97; (with_reducible refine (HH.out _).mono ?_); rintro e w' ⟨rfl, rfl⟩)
          | (go_at_call 98; (with_reducible refine (HG.out _ _ _).mono ?_); rintro e w' ⟨rfl, rfl⟩)
          | (go_at_call 99; (with_reducible refine (HN.out _ _ _ _).mono ?_); rintro e w' ⟨rfl, hB9⟩))
        go_ret
        exact ⟨by first | (rw [HV.out, if_neg (by simp [t1, t2, t3])]; rfl) | (rw [HV.out, if_pos (by simp [t1, t2, t3])]; rfl), hBw.alloc hBw.size _⟩
      · cases t4 : d4
        · go_wp2_with (first
            | (go_at_call 97; (with_reducible refine (HH.out _).mono ?_); rintro e w' ⟨rfl, rfl⟩)
            | (go_at_call 98; (with_reducible refine (HG.out _ _ _).mono ?_); rintro e w' ⟨rfl, rfl⟩)
            | (go_at_call 99; (with_reducible refine (HN.out _ _ _ _).mono ?_); rintro e w' ⟨rfl, hB9⟩))
          go_ret
          exact ⟨by first | (rw [HV.out, if_neg (by simp [t1, t2, t3, t4])]; rfl) | (rw [HV.out, if_pos (by simp [t1, t2, t3, t4])]; rfl), (hBw.alloc hBw.size _).trans (hB9.mono (hBw.alloc hBw.size _).size)⟩
        · go_wp2_with (first
            | (go_at_call 97; (with_reducible refine (HH.out _).mono ?_); rintro e w' ⟨rfl, rfl⟩)
            | (go_at_call 98; (with_reducible refine (HG.out _ _ _).mono ?_); rintro e w' ⟨rfl, rfl⟩)
            | (go_at_call 99; (with_reducible refine (HN.out _ _ _ _).mono ?_); rintro e w' ⟨rfl, hB9⟩))
          go_ret
          exact ⟨by first | (rw [HV.out, if_neg (by simp [t1, t2, t3, t4])]; rfl) | (rw [HV.out, if_pos (by simp [t1, t2, t3, t4])]; rfl), (hBw.alloc hBw.size _).trans (hB9.mono (hBw.alloc hBw.size _).size)⟩
theorem rvCheck_any (op rd a b n : Int) (w : World) (hR : RvRows w) : Calls Tryz.prog 79 #[.agg #[.int .i64 op, .int .i64 rd, .int .i64 a, .int .i64 b, .int .i64 n]] w (CheckTo op rd a b n w) := by
  by_cases h : op < 1 ∨ 65 < op
  · exact rvCheck_out op rd a b n w h
  · obtain ⟨k, rfl⟩ : ∃ k : Nat, op = k := ⟨op.toNat, by omega⟩
    exact rvCheck_in k rd a b n w hR (by omega) (by omega)
end Go.Proofs
