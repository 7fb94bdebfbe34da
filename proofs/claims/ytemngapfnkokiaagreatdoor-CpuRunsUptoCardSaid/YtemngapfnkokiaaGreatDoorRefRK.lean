/- (*patinaref03.Machine).Step and Run. -/
import Derived.Test.YtemngapfnkokiaaGreatDoorRefX1
import Derived.Test.YtemngapfnkokiaaGreatDoorRefX2
import Derived.Test.YtemngapfnkokiaaGreatDoorRuns
import Derived.Test.YtemngapfnkokiaaGreatDoorNews
namespace Go.Pat
open Go Go.RowKit
theorem stepM_ill {s : Ms} (h : overB s.c = false) (h1 : (stepM s).1 ≠ 0) : (stepM s).2 = { s with c := { s.c with fault := (stepM s).1 } } := by
  unfold stepM at h1 ⊢
  rw [if_neg (by rw [h]; decide)] at h1 ⊢
  split at h1
  · exact absurd rfl h1
  · rename_i hn
    rw [if_neg hn]
end Go.Pat
namespace Go.Proofs
open Go Go.RowKit Go.Pat
section
variable (w : World) (m : Nat) (PA : Option Addr) (pc : Nat) (ov iv : Value) (s : Ms)
theorem r3step_any (hM : RefAt w m PA pc ov iv s) (h0 : s.c.reg 0 = 0) (hroom : s.c.out.length + 1 ≤ 140737488355328) :
    Calls Tryz.prog 20 #[.pointer (some ⟨m, 0, none⟩)] w (RStepTo m PA pc ov iv s (stepM s) w) := by
  cases ho : overB s.c with
  | true =>
    have h := r3step_over w m PA pc ov iv s hM ho
    have e : stepM s = (s.c.fault, s) := by unfold stepM; rw [if_pos ho]
    rw [e]; exact h
  | false =>
    obtain ⟨q, hq⟩ : ∃ q, fetchM s.fs s.c.pc = q := ⟨_, rfl⟩
    obtain ⟨x, z⟩ := q
    by_cases hz : z = 0
    · subst hz
      cases hi : decR x with
      | none =>
        have h := r3step_noword w m PA pc ov iv s hM ho x hq hi
        have hI : innerM s = (31, s) := by unfold innerM; rw [hq, if_pos rfl]; simp only [hi]
        have e : stepM s = (31, { s with c := { s.c with fault := 31 } }) := by unfold stepM; rw [if_neg (by rw [ho]; decide), hI]; rfl
        rw [e]; exact h
      | some i =>
        obtain ⟨b1, b2, _⟩ := decR_some hi
        by_cases k1 : i.op ≤ 1
        · exact r3step_Lui w m PA pc ov iv s hM ho h0 x hq i hi b1 k1
        by_cases k2 : i.op ≤ 2
        · exact r3step_Aui w m PA pc ov iv s hM ho h0 x hq i hi (by omega) k2
        by_cases k3 : i.op ≤ 3
        · exact r3step_Jal w m PA pc ov iv s hM ho h0 x hq i hi (by omega) k3
        by_cases k4 : i.op ≤ 4
        · exact r3step_Jalr w m PA pc ov iv s hM ho h0 x hq i hi (by omega) k4
        by_cases k10 : i.op ≤ 10
        · exact r3step_Br w m PA pc ov iv s hM ho h0 x hq i hi (by omega) k10
        by_cases k17 : i.op ≤ 17
        · exact r3step_Ld w m PA pc ov iv s hM ho h0 x hq i hi (by omega) k17
        by_cases k21 : i.op ≤ 21
        · exact r3step_St w m PA pc ov iv s hM ho h0 x hq i hi (by omega) k21
        by_cases k34 : i.op ≤ 34
        · exact r3step_Imm w m PA pc ov iv s hM ho h0 x hq i hi (by omega) k34
        by_cases k62 : i.op ≤ 62
        · exact r3step_Reg w m PA pc ov iv s hM ho h0 x hq i hi (by omega) k62
        by_cases k63 : i.op ≤ 63
        · exact r3step_Fen w m PA pc ov iv s hM ho h0 x hq i hi (by omega) k63
        by_cases k64 : i.op ≤ 64
        · exact r3step_Ec w m PA pc ov iv s hM ho h0 x hq i hi (by omega) k64 hroom
        · exact r3step_Ebr w m PA pc ov iv s hM ho h0 x hq i hi (by omega) b2
    · have h := r3step_nofetch w m PA pc ov iv s hM ho (fetch_no hq hz)
      have hI : innerM s = (30, s) := by unfold innerM; rw [hq, if_neg hz]
      have e : stepM s = (30, { s with c := { s.c with fault := 30 } }) := by unfold stepM; rw [if_neg (by rw [ho]; decide), hI]; rfl
      rw [e]; exact h
/-- what a run leaves. -/
def RRunTo (m : Nat) (PA : Option Addr) (pc : Nat) (ov iv : Value) (s : Ms) (n : Nat) (w : World) (e : Ending) (w' : World) : Prop :=
  e = .returned (.int .i64 ((runM n s).1 : Int)) ∧ ∃ ov', RefAt w' m PA pc ov' iv (runM n s).2 ∧ KeptBut (mine m s.fs ov) w w' ∧ (∀ g, ov'.ownBlock = some g → ov.ownBlock = some g ∨ w.heap.size ≤ g) ∧ (runM n s).2.fs.map (·.blk) = s.fs.map (·.blk)
def fzB (w : World) (m : Nat) : Nat := match w.cell? ⟨m, 36, none⟩ with | some (.int _ z) => if z = 0 then 1 else 0 | _ => 0
theorem fzB_le (w : World) (m : Nat) : fzB w m ≤ 1 := by
  unfold fzB
  split
  · split <;> decide
  · decide
theorem kept_step {w wr w4 : World} {m : Nat} {fs sfs : List Fr} {ov ovk : Value} (hbk : sfs.map (·.blk) = fs.map (·.blk)) (hKk : KeptBut (mine m fs ov) w wr) (hvk : ∀ g, ovk.ownBlock = some g → ov.ownBlock = some g ∨ w.heap.size ≤ g)
    (hK4 : KeptBut (mine m sfs ovk) wr w4) : KeptBut (mine m fs ov) w w4 := by
  refine ⟨hK4.os.trans hKk.os, hK4.tape.trans hKk.tape, hK4.output.trans hKk.output, Nat.le_trans hKk.size hK4.size, fun j hj hnj => (hK4.block j (Nat.lt_of_lt_of_le hj hKk.size) (fun h => ?_)).trans (hKk.block j hj hnj)⟩
  rcases h with h | h | h
  · exact hnj (.inl h)
  · exact hnj (.inr (.inl (hbk ▸ h)))
  · rcases hvk j h with h | h
    · exact hnj (.inr (.inr h))
    · omega
set_option maxRecDepth 20000 in
set_option maxHeartbeats 8000000 in
theorem r3run_any (hM : RefAt w m PA pc ov iv s) (h0 : s.c.reg 0 = 0) (n : Nat) (hn : n ≤ 9223372036854775807) (hroom : s.c.out.length + n ≤ 140737488355328) :
    Calls Tryz.prog 8 #[.pointer (some ⟨m, 0, none⟩), .int .i64 (n : Int)] w (RRunTo m PA pc ov iv s n w) := by
  have HM := Lib.hid hM
  have H00 := Lib.hid h0
  have HRm := Lib.hid hroom
  clear hM h0 hroom
  go_enter Tryz.func8, Tryz.ntmps8
  go_wp2
  go_loopw [5] (fun i wr => ∃ (k : Nat) (sk : Ms) (ovk : Value), k ≤ n ∧ i = .int .i64 k ∧ runM n s = ((runM (n - k) sk).1 + k, (runM (n - k) sk).2) ∧ RefAt wr m PA pc ovk iv sk ∧ KeptBut (mine m s.fs ov) w wr ∧
    sk.fs.map (·.blk) = s.fs.map (·.blk) ∧ sk.c.out.length ≤ s.c.out.length + k ∧ sk.c.reg 0 = 0 ∧ ∀ g, ovk.ownBlock = some g → ov.ownBlock = some g ∨ w.heap.size ≤ g) (fun i wr => 2 * (n - (intOf i).toNat) + fzB wr m)
  case atStart => exact ⟨0, s, ov, by omega, rfl, rfl, HM.out, .refl _ _, rfl, by omega, H00.out, fun g h => .inl h⟩
  case round =>
    obtain ⟨k, sk, ovk, hk, rfl, hrun, hMk, hKk, hbk, hok, hz, hvk⟩ := hrel
    have hml := hMk.lt
    have c34 := hMk.chalted
    have c36 := hMk.cfault
    by_cases hlt : k < n
    · have td : decide ((k : Int) < (n : Int)) = true := decide_eq_true (by omega)
      cases ho : overB sk.c with
      | true =>
        have HE := Lib.hid (show runM n s = (k, sk) by rw [hrun, show n - k = (n - k - 1) + 1 by omega, runM_succ, if_pos ho]; simp)
        have HG := Lib.hid (And.intro hMk (And.intro hKk (And.intro hvk hbk)))
        cases hh : sk.c.halted with
        | true =>
          rw [hh] at c34
          clear ho hrun hMk hKk hvk hbk hok hz hh
          go_wp2_with fail
          go_ret
          refine ⟨by rw [HE.out]; rfl, ovk, ?_, HG.out.2.1, HG.out.2.2.1, by rw [HE.out]; exact HG.out.2.2.2⟩
          rw [HE.out]
          exact HG.out.1
        | false =>
          rw [hh] at c34
          have hf : (sk.c.fault == 0) = false := by unfold overB at ho; rw [hh] at ho; simpa using ho
          clear ho hrun hMk hKk hvk hbk hok hz hh
          go_wp2_with fail
          go_ret
          refine ⟨by rw [HE.out]; rfl, ovk, ?_, HG.out.2.1, HG.out.2.2.1, by rw [HE.out]; exact HG.out.2.2.2⟩
          rw [HE.out]
          exact HG.out.1
      | false =>
        have hh : sk.c.halted = false ∧ sk.c.fault = 0 := by unfold overB at ho; simpa using ho
        rw [hh.1] at c34
        rw [hh.2] at c36
        have HZ := Lib.hid (show fzB wr m = 1 by unfold fzB; rw [c36]; rfl)
        obtain ⟨r, hr⟩ : ∃ r, r = stepM sk := ⟨_, rfl⟩
        have HS := Lib.hid (r3step_any _ m PA pc ovk iv sk hMk hz (by have := HRm.out; omega))
        have hal := stepM_alike sk
        have hr0 := stepM_reg0 sk hz
        have hill := fun h => stepM_ill (s := sk) ho h
        have hr1 : runM (n - k) sk = if r.1 = 0 then ((runM (n - (k + 1)) r.2).1 + 1, (runM (n - (k + 1)) r.2).2) else (0, r.2) := by
          rw [show n - k = (n - (k + 1)) + 1 by omega, runM_succ, if_neg (by rw [ho]; decide), ← hr]
        rw [← hr] at HS hal hr0 hill
        clear ho hr hh
        by_cases h0 : r.1 = 0
        · rw [if_pos h0] at hr1
          have HN := Lib.hid (show runM n s = ((runM (n - (k + 1)) r.2).1 + (k + 1), (runM (n - (k + 1)) r.2).2) by rw [hrun, hr1]; simp only [Prod.mk.injEq, and_true]; omega)
          have H0 := Lib.hid h0
          have HG := Lib.hid (And.intro hKk (And.intro hvk (And.intro hbk (And.intro hok (And.intro hal hr0)))))
          clear hrun hr1 h0 hMk hKk hvk hbk hok hz hill hal hr0
          go_wp2_with fail
          refine Calls.mono HS.out ?_
          rintro e w4 ⟨rfl, ov', hM4, hK4, hO4⟩
          rw [H0.out]
          go_wp2_with fail
          go_roundw
          case rel =>
            obtain ⟨hKk, hvk, hbk, hok, hal, hr0⟩ := HG.out
            refine ⟨k + 1, r.2, ov', by omega, by go_num, HN.out, hM4, kept_step hbk hKk hvk hK4, hal.1.trans hbk, by have := hal.2.1; omega, hr0, fun g h => ?_⟩
            rcases hO4 g h with h | h
            · exact hvk g h
            · exact .inr (Nat.le_trans hKk.size h)
          case measure =>
            have h1 := fzB_le w4 m
            have h2 := HZ.out
            simp [intOf]; omega
        · rw [if_neg h0] at hr1
          have hov : overB r.2.c = true := by
            rw [hill h0]
            simp only [overB]
            rw [decide_eq_true h0, Bool.or_true]
          have HN := Lib.hid (show runM n s = ((runM (n - k) r.2).1 + k, (runM (n - k) r.2).2) by rw [hrun, hr1, runM_over hov])
          have HOv := Lib.hid (show r.2.c.fault = r.1 ∧ r.2.c.out = sk.c.out by rw [hill h0]; exact ⟨rfl, rfl⟩)
          have HG := Lib.hid (And.intro hKk (And.intro hvk (And.intro hbk (And.intro hok (And.intro hal hr0)))))
          have t0 : (r.1 == 0) = false := by simp [h0]
          have H0 := Lib.hid h0
          clear hrun hr1 h0 hMk hKk hvk hbk hok hz hill hal hr0 hov
          go_wp2_with fail
          refine Calls.mono HS.out ?_
          rintro e w4 ⟨rfl, ov', hM4, hK4, hO4⟩
          go_wp2_with fail
          go_roundw
          case rel =>
            obtain ⟨hKk, hvk, hbk, hok, hal, hr0⟩ := HG.out
            refine ⟨k, r.2, ov', hk, rfl, HN.out, hM4, kept_step hbk hKk hvk hK4, hal.1.trans hbk, by rw [HOv.out.2]; exact hok, hr0, fun g h => ?_⟩
            rcases hO4 g h with h | h
            · exact hvk g h
            · exact .inr (Nat.le_trans hKk.size h)
          case measure =>
            have h2 := HZ.out
            have h1 : fzB w4 m = 0 := by unfold fzB; rw [hM4.cfault, HOv.out.1]; simp only [if_neg H0.out]
            simp [intOf]; omega
    · have td : decide ((k : Int) < (n : Int)) = false := decide_eq_false (by omega)
      obtain rfl : k = n := by omega
      have HE := Lib.hid (show runM k s = (k, sk) by rw [hrun, Nat.sub_self]; simp [runM])
      have HG := Lib.hid (And.intro hMk (And.intro hKk (And.intro hvk hbk)))
      clear hrun hMk hKk hvk hbk hok hz c34 c36
      go_wp2_with fail
      go_ret
      refine ⟨by rw [HE.out]; rfl, ovk, ?_, HG.out.2.1, HG.out.2.2.1, by rw [HE.out]; exact HG.out.2.2.2⟩
      rw [HE.out]
      exact HG.out.1
end
end Go.Proofs

/- The reference machine: what it uses is kept; a run of any number of steps, on both sides. -/
namespace Go.Proofs
open Go Go.RowKit Go.Pat
/-- the blocks that a reference machine uses. -/
def rUses (m : Nat) (PA : Option Addr) (ov iv : Value) (fs : List Fr) (k : Nat) : Prop := mine m fs ov k ∨ (∃ a, PA = some a ∧ a.block = k) ∨ iv.ownBlock = some k
section
variable {w w' : World} {m : Nat} {PA : Option Addr} {pc : Nat} {ov iv : Value} {s : Ms}
theorem RefAt.kept (h : RefAt w m PA pc ov iv s) (hs : w.heap.size ≤ w'.heap.size) (hk : ∀ k, rUses m PA ov iv s.fs k → w'.heap[k]? = w.heap[k]?) : RefAt w' m PA pc ov iv s := by
  obtain ⟨oc, ho, hc⟩ := h.cells
  refine ⟨⟨oc, ho, (hk m (.inl (.inl rfl))).trans hc⟩, fun j hj => ?_, fun a ha => ?_, fun f hf => (h.pages f hf).keep (hk _ (.inl (.inr (.inl (List.mem_map_of_mem hf))))), h.apart, h.keys, h.low, h.few, h.len, h.small, h.pc,
    h.out.keep fun g hg => hk g (.inl (.inr (.inr hg))), h.inn.keep fun g hg => hk g (.inr (.inr hg)), h.rng, h.apO, h.apI⟩
  · obtain ⟨b, o, e, hb, hx⟩ := h.row j hj
    exact ⟨b, o, e, by omega, (World.cell?_of_block (hk b (.inr (.inl ⟨_, e, rfl⟩)))).trans hx⟩
  · obtain ⟨cur, hc⟩ := h.rowb a ha
    exact ⟨cur, (hk _ (.inr (.inl ⟨a, ha, rfl⟩))).trans hc⟩
theorem RefAt.usesLt (h : RefAt w m PA pc ov iv s) {k : Nat} (hk : rUses m PA ov iv s.fs k) : k < w.heap.size := by
  rcases hk with (rfl | hk | hk) | ⟨a, ha, rfl⟩ | hk
  · exact h.lt
  · obtain ⟨f, hf, rfl⟩ := List.mem_map.1 hk
    exact (h.pages f hf).lt
  · obtain ⟨-, cur, hc⟩ := h.out.block hk
    exact lt_of_block hc
  · obtain ⟨cur, hc⟩ := h.rowb a ha
    exact lt_of_block hc
  · obtain ⟨-, cur, hc⟩ := h.inn.block hk
    exact lt_of_block hc
/-- its pages, as a list of pages. -/
theorem RefAt.pgs (h : RefAt w m PA pc ov iv s) : PgsAt w.heap.size w PA (s.fs.map frP) := by
  have hlen := pcells_length (s.fs.map frP)
  rw [List.length_map] at hlen
  refine ⟨fun i hi => ?_, fun x hx => ?_, fun x hx => ?_, by rw [List.length_map]; have := h.few; omega⟩
  · have hi2 : i < s.fs.length := by simpa using hi
    obtain ⟨b, o, e, hb, g0, g1, g2⟩ := pg_at h.row i hi2
    refine ⟨b, o, e, hb, ?_, ?_, ?_⟩
    · rw [g0, List.getElem_map]; rfl
    · rw [g1, List.getElem_map]; rfl
    · rw [g2, List.getElem_map]; rfl
  · obtain ⟨f, hf, rfl⟩ := List.mem_map.1 hx
    have hF := h.pages f hf
    intro i hi
    rw [bcells_length] at hi
    refine ⟨f.blk, 0, rfl, hF.lt, ?_⟩
    rw [Nat.zero_add, hF.cell i hi]
    simp [bcells, bval, frP]
    rfl
  · obtain ⟨f, hf, rfl⟩ := List.mem_map.1 hx
    have h1 := h.low f hf
    have h2 := (h.pages f hf).1
    show f.base < _ ∧ f.data.length ≤ _
    omega
/-- what its answers read: its state, and where its pages lie. -/
theorem RefAt.shown (h : RefAt w m PA pc ov iv s) : ∃ A k, ∀ w', Below w.heap.size w w' → w'.rangeAt m 0 (s.c.cells (.slice A s.c.out.length k)) ∧ Bs w'.heap.size w' A s.c.out ∧ w'.cell? ⟨m, 39, none⟩ = some (.slice PA s.fs.length pc) ∧ PgsAt w'.heap.size w' PA (s.fs.map frP) := by
  obtain ⟨oc, ho, hc⟩ := h.cells
  obtain ⟨A, k, rfl, hb⟩ := OutIs.form ho h.out
  refine ⟨A, k, fun w' hB => ⟨fun j v hv => ?_, (hb.below hB).mono hB.size, ((hB.cell (p := ⟨m, 39, none⟩) h.lt).trans h.cpgs), (h.pgs.below hB).mono hB.size⟩⟩
  rw [Nat.zero_add]
  refine (obj_cell ((hB.block m h.lt).trans hc) j).trans ?_
  rw [List.getElem?_toArray, mcells_app, List.getElem?_append_left]
  · exact hv
  · rcases Nat.lt_or_ge j (s.c.cells (.slice A s.c.out.length k)).length with h | h
    · exact h
    · rw [List.getElem?_eq_none h] at hv; cases hv
theorem frP_pg (fs : List Fr) : (fs.map frP).map PgIn.pg = fs.map Fr.pg := by rw [List.map_map]; rfl
/-- a reference machine that New has made. -/
structure RMade (B : Nat) (w : World) (c : Mc) (ps : List PgIn) (inp : List UInt8) (m : Nat) (PA : Option Addr) (pc : Nat) (ov iv : Value) (fs : List Fr) : Prop where
  at_ : RefAt w m PA pc ov iv ⟨c, fs, inp⟩
  pg : fs.map Fr.pg = ps.map PgIn.pg
  ge : ∀ k, rUses m PA ov iv fs k → B ≤ k
/-- what New of the reference machine leaves. -/
def RNewTo (w : World) (c : Mc) (ps : List PgIn) (inp : List UInt8) (e : Ending) (w' : World) : Prop := Below w.heap.size w w' ∧
  ((newE c ps inp.length ≠ 0 ∧ e = .returned (.tuple #[.pointer none, .int .i64 (newE c ps inp.length)])) ∨
   (newE c ps inp.length = 0 ∧ rightB c inp.length = true ∧ fromE (ps.map PgIn.pg) = 0 ∧ ∃ (m : Nat) (PA : Option Addr) (pc : Nat) (ov iv : Value) (fs : List Fr), e = .returned (.tuple #[.pointer (some ⟨m, 0, none⟩), .int .i64 0]) ∧ RMade w.heap.size w' c ps inp m PA pc ov iv fs))
end
theorem Run_neg (w : World) (m : Nat) (N : Int) (hN : N < 0) : Calls Tryz.prog 7 #[.pointer (some ⟨m, 0, none⟩), .int .i64 N] w fun e w' => e = .returned (.int .i64 0) ∧ Below w.heap.size w w' := by
  have td : decide ((0 : Int) < N) = false := decide_eq_false (by omega)
  go_enter Tryz.func7, Tryz.ntmps7
  go_wp2
  go_loopw [5] (fun i wr => i = .int .i64 0 ∧ Below w.heap.size w wr) (fun i _ => 0)
  case atStart => exact ⟨rfl, .refl _ _⟩
  case round =>
    obtain ⟨rfl, hB⟩ := hrel
    go_wp2_with fail
    go_ret
    exact ⟨rfl, hB⟩
theorem r3run_neg (w : World) (m : Nat) (N : Int) (hN : N < 0) : Calls Tryz.prog 8 #[.pointer (some ⟨m, 0, none⟩), .int .i64 N] w fun e w' => e = .returned (.int .i64 0) ∧ Below w.heap.size w w' := by
  have td : decide ((0 : Int) < N) = false := decide_eq_false (by omega)
  go_enter Tryz.func8, Tryz.ntmps8
  go_wp2
  go_loopw [5] (fun i wr => i = .int .i64 0 ∧ Below w.heap.size w wr) (fun i _ => 0)
  case atStart => exact ⟨rfl, .refl _ _⟩
  case round =>
    obtain ⟨rfl, hB⟩ := hrel
    go_wp2_with fail
    go_ret
    exact ⟨rfl, hB⟩
theorem Run_int (w : World) (m p mb : Nat) (ov iv : Value) (s : Ms) (N : Int) (r : Nat) (t : Ms) (hr : runM N.toNat s = (r, t)) (hM : MachAt w m p mb ov iv s) (hR : RvRows w) (hsep : ¬ mine m s.fs ov 0) (hn : N ≤ 5000) (hroom : s.c.out.length + 5000 ≤ 140737488355328) :
    Calls Tryz.prog 7 #[.pointer (some ⟨m, 0, none⟩), .int .i64 N] w fun e w' => e = .returned (.int .i64 (r : Int)) ∧ ∃ ov', MachAt w' m p mb ov' iv t ∧ KeptBut (mine m s.fs ov) w w' ∧ (∀ g, ov'.ownBlock = some g → ov.ownBlock = some g ∨ w.heap.size ≤ g) ∧ t.fs.map (·.blk) = s.fs.map (·.blk) := by
  rcases Int.lt_or_le N 0 with h | h
  · rw [show N.toNat = 0 by omega] at hr
    obtain ⟨rfl, rfl⟩ := Prod.mk.inj (show ((0 : Nat), s) = (r, t) from hr)
    refine (Run_neg w m N h).mono ?_
    rintro e w' ⟨rfl, hB⟩
    exact ⟨rfl, ov, hM.below hB, .of_below hB, fun g h => .inl h, rfl⟩
  · obtain ⟨n, rfl⟩ : ∃ n : Nat, N = n := ⟨N.toNat, by omega⟩
    exact Run_named w m p mb ov iv s n r t hr hM hR hsep (by omega) (by omega)
theorem r3run_int (w : World) (m : Nat) (PA : Option Addr) (pc : Nat) (ov iv : Value) (s : Ms) (N : Int) (r : Nat) (t : Ms) (hr : runM N.toNat s = (r, t)) (hM : RefAt w m PA pc ov iv s) (h0 : s.c.reg 0 = 0) (hn : N ≤ 5000) (hroom : s.c.out.length + 5000 ≤ 140737488355328) :
    Calls Tryz.prog 8 #[.pointer (some ⟨m, 0, none⟩), .int .i64 N] w fun e w' => e = .returned (.int .i64 (r : Int)) ∧ ∃ ov', RefAt w' m PA pc ov' iv t ∧ KeptBut (mine m s.fs ov) w w' ∧ (∀ g, ov'.ownBlock = some g → ov.ownBlock = some g ∨ w.heap.size ≤ g) ∧ t.fs.map (·.blk) = s.fs.map (·.blk) := by
  rcases Int.lt_or_le N 0 with h | h
  · rw [show N.toNat = 0 by omega] at hr
    obtain ⟨rfl, rfl⟩ := Prod.mk.inj (show ((0 : Nat), s) = (r, t) from hr)
    refine (r3run_neg w m N h).mono ?_
    rintro e w' ⟨rfl, hB⟩
    exact ⟨rfl, ov, hM.below hB, .of_below hB, fun g h => .inl h, rfl⟩
  · obtain ⟨n, rfl⟩ : ∃ n : Nat, N = n := ⟨N.toNat, by omega⟩
    refine (r3run_any w m PA pc ov iv s hM h0 n (by omega) (by omega)).mono ?_
    rintro e w' ⟨rfl, ov', h1, h2, h3, h4⟩
    rw [show ((n : Int)).toNat = n by omega] at hr
    rw [hr] at h1 h4
    exact ⟨by rw [hr], ov', h1, h2, h3, h4⟩
end Go.Proofs
