/- Two machines side by side. -/
import Derived.Test.YtemngapfnkokiaaDoorSmall3
import Derived.Test.YtemngapfnkokiaaDoorRunSame
import Derived.Test.YtemngapfnkokiaaDoorCpuEq
namespace Go.Pat
open Go Go.RowKit
/-- what New tells. -/
def newE (c : Mc) (ps : List PgIn) (n : Nat) : Int := if rightB c n then fromE (ps.map PgIn.pg) else 1
end Go.Pat
namespace Go.Proofs
open Go Go.RowKit Go.Pat
/-- the blocks that a machine uses. -/
def uses (m p mb : Nat) (ov iv : Value) (fs : List Fr) (k : Nat) : Prop := mine m fs ov k ∨ k = p ∨ k = mb ∨ iv.ownBlock = some k
theorem MachAt.kept {w w' : World} {m p mb : Nat} {ov iv : Value} {s : Ms} (h : MachAt w m p mb ov iv s) (hk : ∀ k, uses m p mb ov iv s.fs k → w'.heap[k]? = w.heap[k]?) : MachAt w' m p mb ov iv s :=
  ⟨(hk m (.inl (.inl rfl))).trans h.cells, h.mem.keep (hk p (.inr (.inl rfl))) (hk mb (.inr (.inr (.inl rfl)))) fun f hf => hk f.blk (.inl (.inr (.inl (List.mem_map_of_mem hf)))), h.len, h.small, h.pc,
    h.out.keep fun g hg => hk g (.inl (.inr (.inr hg))), h.inn.keep fun g hg => hk g (.inr (.inr (.inr hg))), h.rng, h.apO, h.apI⟩
theorem MachAt.usesLt {w : World} {m p mb : Nat} {ov iv : Value} {s : Ms} (h : MachAt w m p mb ov iv s) {k : Nat} (hk : uses m p mb ov iv s.fs k) : k < w.heap.size := by
  have hl := h.mem.lt
  rcases hk with (rfl | hk | hk) | rfl | rfl | hk
  · exact h.lt
  · obtain ⟨f, hf, rfl⟩ := List.mem_map.1 hk
    exact hl.2.2 f hf
  · obtain ⟨-, cur, hc⟩ := h.out.block hk
    exact lt_of_block hc
  · exact hl.1
  · exact hl.2.1
  · obtain ⟨-, cur, hc⟩ := h.inn.block hk
    exact lt_of_block hc
/-- a machine that New has made. -/
structure Made (B : Nat) (w : World) (c : Mc) (ps : List PgIn) (inp : List UInt8) (m p mb : Nat) (ov iv : Value) (fs : List Fr) : Prop where
  at_ : MachAt w m p mb ov iv ⟨c, fs, inp⟩
  pg : fs.map Fr.pg = ps.map PgIn.pg
  ge : ∀ k, uses m p mb ov iv fs k → B ≤ k
theorem NewPost.two {w w' : World} {c : Mc} {ps : List PgIn} {inp : List UInt8} {e : Ending} (h : NewPost w c ps inp e w') : Below w.heap.size w w' ∧
    ((newE c ps inp.length ≠ 0 ∧ e = .returned (.tuple #[.pointer none, .int .i64 (newE c ps inp.length)])) ∨
     (newE c ps inp.length = 0 ∧ rightB c inp.length = true ∧ fromE (ps.map PgIn.pg) = 0 ∧ ∃ (m p mb : Nat) (ov iv : Value) (fs : List Fr), e = .returned (.tuple #[.pointer (some ⟨m, 0, none⟩), .int .i64 0]) ∧ Made w.heap.size w' c ps inp m p mb ov iv fs)) := by
  refine ⟨h.1, ?_⟩
  rcases h.2 with ⟨h1, rfl⟩ | ⟨h1, h2, rfl⟩ | ⟨h1, h2, m, p, mb, ov, iv, fs, rfl, hM, hfs, hmine, hp, hmb, hiv⟩
  · have e1 : newE c ps inp.length = 1 := by unfold newE; rw [h1]; rfl
    rw [e1]
    exact .inl ⟨by decide, rfl⟩
  · have e1 : newE c ps inp.length = fromE (ps.map PgIn.pg) := by unfold newE; rw [h1]; rfl
    rw [e1]
    exact .inl ⟨h2, rfl⟩
  · have e1 : newE c ps inp.length = 0 := by unfold newE; rw [h1]; exact h2
    refine .inr ⟨e1, h1, h2, m, p, mb, ov, iv, fs, rfl, hM, hfs, fun k hk => ?_⟩
    rcases hk with hk | rfl | rfl | hk
    · exact hmine k hk
    · exact hp
    · exact hmb
    · exact hiv k hk
theorem rightB_reg0 {c : Mc} {n : Nat} (h : rightB c n = true) : c.reg 0 = 0 := by
  simp only [rightB, rightG, Bool.and_eq_true, beq_iff_eq] at h
  have := h.1
  omega
theorem from_few {l : List Pgd} (h : fromE l = 0) : l.length ≤ 4096 := by
  rcases Nat.lt_or_ge 4096 l.length with h1 | h1
  · unfold fromE at h
    rw [if_pos h1] at h
    cases h
  · exact h1
/-- behind a run: the machine, and another one that shares nothing with it. -/
theorem run_keeps {w w' : World} {m p mb : Nat} {ov iv : Value} {s : Ms} {S : Nat → Prop} (h : MachAt w m p mb ov iv s) (hk : KeptBut S w w') (hs : ∀ k, uses m p mb ov iv s.fs k → ¬ S k) : MachAt w' m p mb ov iv s :=
  h.kept fun k hu => hk.block k (h.usesLt hu) (hs k hu)
theorem Run_named (w : World) (m p mb : Nat) (ov iv : Value) (s : Ms) (n r : Nat) (t : Ms) (hr : runM n s = (r, t)) (hM : MachAt w m p mb ov iv s) (hR : RvRows w) (hsep : ¬ mine m s.fs ov 1) (hn : n ≤ 9223372036854775807) (hroom : s.c.out.length + n ≤ 140737488355328) :
    Calls Tryd.prog 29 #[.pointer (some ⟨m, 0, none⟩), .int .i64 (n : Int)] w fun e w' => e = .returned (.int .i64 (r : Int)) ∧ ∃ ov', MachAt w' m p mb ov' iv t ∧ KeptBut (mine m s.fs ov) w w' ∧ (∀ g, ov'.ownBlock = some g → ov.ownBlock = some g ∨ w.heap.size ≤ g) ∧ t.fs.map (·.blk) = s.fs.map (·.blk) := by
  refine (Run_any w m p mb ov iv s n hM hR hsep hn hroom).mono ?_
  rintro e w' ⟨rfl, ov', h1, h2, h3, h4⟩
  rw [hr] at h1 h4
  exact ⟨by rw [hr], ov', h1, h2, h3, h4⟩
theorem State_form (w : World) (m p mb : Nat) (ov iv : Value) (s : Ms) (c : Mc) (hc : s.c = c) (hM : MachAt w m p mb ov iv s) (hol : s.c.out.length ≤ 140737488355328) :
    Calls Tryd.prog 31 #[.pointer (some ⟨m, 0, none⟩)] w fun e w' => ∃ A k, e = .returned (.agg (c.cells (.slice A c.out.length k)).toArray) ∧ Bs w'.heap.size w' A c.out ∧ Below w.heap.size w w' := by
  subst hc
  refine (State_any w m p mb ov iv s hM hol).mono ?_
  rintro e w' ⟨ov', rfl, h1, h2⟩
  obtain ⟨A, k, rfl, h3⟩ := h1.form
  exact ⟨A, k, rfl, h3, h2⟩
theorem step_loadG {P : Program} {ops : Array Oper} {o : Oper} {a : Act} {w : World} {K : Act → World → Prop} {Q : Exit → Act → World → Prop} {E : Prop} (hw : Region.wanted o (yielded ops a.tmps) = true) (ty : TypeId) (x : Operand) (ho : o.op = .load ty x)
    (b off : Nat) (hx : a.eval x = .pointer (some ⟨b, off, none⟩)) (cs : List Value) (d : TypeDesc) (hc : w.rangeAt b off cs) (hu : P.underlying ty = some d) (hd : d.isRow = true) (hi : (P.info? ty).map (·.size) = some cs.length)
    (h : K (a.put o.dst (.agg cs.toArray)) w) : if Region.wanted o (yielded ops a.tmps) = true then Oper.wp P o a w K Q else E := by
  rw [if_pos hw]
  exact wp_load_mid ty x ho b off hx cs d hc hu hd hi h
end Go.Proofs

/- patinalaw03.CpuParts: the walk. -/
namespace Go.Proofs
open Go Go.RowKit Go.Pat
/-- the cells of a case. -/
def caseC (c : Mc) (OA PA IA : Option Addr) (oc pc ic np ni : Nat) (N : Int) : List Value := c.cells (.slice OA c.out.length oc) ++ [.slice PA np pc, .slice IA ni ic, .int .i64 N]
set_option maxRecDepth 20000 in
set_option maxHeartbeats 64000000 in
theorem CpuParts_out (w : World) (c : Mc) (OA PA IA : Option Addr) (oc pc ic np ni : Nat) (N M : Int) (hbad : N < 0 ∨ 5000 < N ∨ M < 0 ∨ 5000 < M) (hl : c.regs.length = 32) (hR : RvRows w) :
    Calls Tryd.prog 9 #[.agg (caseC c OA PA IA oc pc ic np ni N).toArray, .int .i64 M] w fun e w' => e = .returned (.bool true) ∧ Below w.heap.size w w' := by
  obtain ⟨cs, hcs⟩ : ∃ cs, cs = (caseC c OA PA IA oc pc ic np ni N).toArray := ⟨_, rfl⟩
  obtain ⟨W, hW⟩ : ∃ W : World, W = w.alloc (.cells cs 83) := ⟨_, rfl⟩
  have hB : Below w.heap.size w W := by rw [hW]; exact (Below.refl _ _).alloc (Nat.le_refl _) _
  have h1 : W.heap[w.heap.size]? = some (.cells cs 83 (0, 0)) := by rw [hW]; exact heap_alloc_new w _
  have a41 : W.cell? ⟨w.heap.size, 41, none⟩ = some (.int .i64 N) := (obj_cell h1 41).trans (by rw [hcs, List.getElem?_toArray, caseC, List.getElem?_append_right (by rw [ccells_len hl]; omega), ccells_len hl]; rfl)
  have HS := Lib.hid (small3_any W (rvRows_below hR hB))
  have HW := Lib.hid hW
  rw [← hcs]
  clear hW h1 hcs hl hR
  cases q1 : decide (N < 0)
  · cases q2 : decide (5000 < N)
    · cases q3 : decide (M < 0)
      · cases q4 : decide (5000 < M)
        · simp only [decide_eq_false_iff_not] at q1 q2 q3 q4
          omega
        · clear hbad
          go_enter Tryd.func9, Tryd.ntmps9
          go_upto_region 1 with fail
          rw [← HW.out]
          go_wp2_with fail
          refine Calls.mono HS.out ?_
          rintro e w1 ⟨rfl, hB1⟩
          go_wp2
          go_ret
          exact ⟨rfl, hB.trans (hB1.mono hB.size)⟩
      · clear hbad
        go_enter Tryd.func9, Tryd.ntmps9
        go_upto_region 1 with fail
        rw [← HW.out]
        go_wp2_with fail
        refine Calls.mono HS.out ?_
        rintro e w1 ⟨rfl, hB1⟩
        go_wp2
        go_ret
        exact ⟨rfl, hB.trans (hB1.mono hB.size)⟩
    · clear hbad
      go_enter Tryd.func9, Tryd.ntmps9
      go_upto_region 1 with fail
      rw [← HW.out]
      go_wp2_with fail
      refine Calls.mono HS.out ?_
      rintro e w1 ⟨rfl, hB1⟩
      go_wp2
      go_ret
      exact ⟨rfl, hB.trans (hB1.mono hB.size)⟩
  · clear hbad
    go_enter Tryd.func9, Tryd.ntmps9
    go_upto_region 1 with fail
    rw [← HW.out]
    go_wp2_with fail
    refine Calls.mono HS.out ?_
    rintro e w1 ⟨rfl, hB1⟩
    go_wp2
    go_ret
    exact ⟨rfl, hB.trans (hB1.mono hB.size)⟩
end Go.Proofs
