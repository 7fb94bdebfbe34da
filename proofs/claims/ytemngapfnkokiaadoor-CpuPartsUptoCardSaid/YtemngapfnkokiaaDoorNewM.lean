/- cpu.New. -/
import Derived.Test.YtemngapfnkokiaaDoorRightM
namespace Go.Proofs
open Go Go.RowKit Go.Pat
theorem step_build3 {P : Program} {ops : Array Oper} {o : Oper} {a : Act} {w : World} {K : Act → World → Prop} {Q : Exit → Act → World → Prop} {E : Prop} (hgd : o.guard = none) (t : TypeId) (i0 i1 i2 : Nat) (x0 x1 x2 : Operand) (ho : o.op = .build t #[(i0, x0), (i1, x1), (i2, x2)])
    (v0 v1 v2 : Value) (h0 : a.eval x0 = v0) (h1 : a.eval x1 = v1) (h2 : a.eval x2 = v2) (cs : Array Value) (hb : P.built t [(i0, v0), (i1, v1), (i2, v2)] = some cs)
    (h : K (a.put o.dst (.agg cs)) w) : if Region.wanted o (yielded ops a.tmps) = true then Oper.wp P o a w K Q else E :=
  step_buildM hgd t _ ho cs (by subst h0 h1 h2; simpa using hb) h
/-- what New leaves. -/
def NewPost (w : World) (c : Mc) (ps : List PgIn) (inp : List UInt8) (e : Ending) (w' : World) : Prop :=
  Below w.heap.size w w' ∧
  ((rightB c inp.length = false ∧ e = .returned (.tuple #[.pointer none, .int .i64 1])) ∨
   (rightB c inp.length = true ∧ fromE (ps.map PgIn.pg) ≠ 0 ∧ e = .returned (.tuple #[.pointer none, .int .i64 (fromE (ps.map PgIn.pg))])) ∨
   (rightB c inp.length = true ∧ fromE (ps.map PgIn.pg) = 0 ∧ ∃ (m p mb : Nat) (ov iv : Value) (fs : List Fr), e = .returned (.tuple #[.pointer (some ⟨m, 0, none⟩), .int .i64 0]) ∧
    MachAt w' m p mb ov iv ⟨c, fs, inp⟩ ∧ fs.map Fr.pg = ps.map PgIn.pg ∧ (∀ k, mine m fs ov k → w.heap.size ≤ k) ∧ w.heap.size ≤ p ∧ w.heap.size ≤ mb ∧ ∀ g, iv.ownBlock = some g → w.heap.size ≤ g))
theorem rightB_inn {c : Mc} {n : Nat} (h : rightB c n = true) : 0 ≤ c.inn ∧ c.inn ≤ (n : Int) := by
  simp only [rightB, rightG, Bool.and_eq_true, decide_eq_true_eq] at h
  exact ⟨h.2.2.2.2.1, h.2.2.2.2.2.1⟩
set_option maxRecDepth 20000 in
set_option maxHeartbeats 16000000 in
theorem New_any3 (w : World) (c : Mc) (OA PA IA : Option Addr) (oc pc ic : Nat) (ps : List PgIn) (inp : List UInt8) (hl : c.regs.length = 32) (hsm : ∀ i, c.reg i < 18446744073709551616) (hpc : c.pc < 18446744073709551616)
    (hO : Bs w.heap.size w OA c.out) (hol : c.out.length ≤ 140737488355328) (hP : PgsAt w.heap.size w PA ps) (hI : Bs w.heap.size w IA inp) (hil : inp.length ≤ 140737488355328) :
    Calls Tryd.prog 34 #[.agg (c.cells (.slice OA c.out.length oc)).toArray, .slice PA ps.length pc, .slice IA inp.length ic] w (NewPost w c ps inp) := by
  obtain ⟨ov0, hov⟩ : ∃ ov0 : Value, ov0 = .slice OA c.out.length oc := ⟨_, rfl⟩
  rw [← hov]
  obtain ⟨W, hW⟩ : ∃ W : World, W = w.alloc (.cells (c.cells ov0).toArray 76) := ⟨_, rfl⟩
  have hB : Below w.heap.size w W := by rw [hW]; exact (Below.refl _ _).alloc (Nat.le_refl _) _
  have h1 : W.heap[w.heap.size]? = some (.cells (c.cells ov0).toArray 76 (0, 0)) := by rw [hW]; exact heap_alloc_new w _
  have hr0 : W.rangeAt w.heap.size 0 (c.cells ov0) := fun j v hv => (obj_cell h1 (0 + j)).trans (by rw [Nat.zero_add, List.getElem?_toArray]; exact hv)
  have hsz : (Tryd.prog.info? 76).map (·.size) = some (c.cells ov0).length := by rw [ccells_len hl]; exact Tryd_sizeCpu2
  have HC := Lib.hid (And.intro hr0 (And.intro hsz (And.intro h1 hov)))
  have HW := Lib.hid hW
  have hbs : w.heap.size < W.heap.size := by rw [hW, World.size_alloc]; omega
  have HR := Lib.hid (fun W2 => right_any W2 c ov0 hl IA inp.length ic)
  have HH := Lib.hid (And.intro hl (And.intro hsm (And.intro hpc (And.intro hO (And.intro hol (And.intro hP (And.intro hI hil)))))))
  clear hW hov h1 hr0 hsz hl hsm hpc hO hP hI
  go_enter Tryd.func34, Tryd.ntmps34
  go_upto_region 1 with fail
  rw [← HW.out]
  go_wp2_with (refine wpList_load_want (op := ⟨some 10, _, _, _, _, _⟩) rfl 76 (.tmp 3) rfl w.heap.size 0 rfl (c.cells ov0) _ HC.out.1 Tryd.underlying76 rfl HC.out.2.1 ?_)
  refine Calls.mono (HR.out _) ?_
  rintro e w1 ⟨rfl, hB1⟩
  cases hr : rightB c inp.length with
  | false =>
    go_wp2
    go_ret2
    exact ⟨hB.trans (hB1.mono hB.size), .inl ⟨hr, rfl⟩⟩
  | true =>
    go_wp2_with fail
    refine Calls.mono (From_all _ PA pc ps ((HH.out.2.2.2.2.2.1.below (hB.trans (hB1.mono hB.size))).mono (Nat.le_trans hB.size hB1.size))) ?_
    rintro e w2 h
    rcases h with ⟨h0, p, mb, fs, rfl, hfs, hM, hp, hmb, hfb, hB2⟩ | ⟨h0, rfl, hB2⟩
    · have hBw : Below w.heap.size w w2 := (hB.trans (hB1.mono hB.size)).trans (hB2.mono (Nat.le_trans hB.size hB1.size))
      have h12 : w2.heap[w.heap.size]? = some (.cells (c.cells ov0).toArray 76 (0, 0)) := by
        rw [hB2.block _ (Nat.lt_of_lt_of_le hbs hB1.size), hB1.block _ hbs]; exact HC.out.2.2.1
      have a37 : w2.cell? ⟨w.heap.size, 37, none⟩ = some (.slice OA c.out.length oc) := (obj_cell h12 37).trans (by rw [List.getElem?_toArray]; exact (cget_tail HH.out.1 4 (by omega)).trans (by rw [← HC.out.2.2.2]; rfl))
      have fz37 : w2.frozen? ⟨w.heap.size, 37, none⟩ = false := obj_frozen h12 37
      have HOB := Lib.hid (show Bs w2.heap.size w2 OA c.out from (HH.out.2.2.2.1.below hBw).mono hBw.size)
      have HIB := Lib.hid (show Bs w2.heap.size w2 IA inp from (HH.out.2.2.2.2.2.2.1.below hBw).mono hBw.size)
      go_wp2_with (at_builtin; refine wpList_appB _ rfl _ _ rfl w2.heap.size _ [] rfl (OwnB.nil _ _) w2.heap.size OA c.out.length oc c.out rfl rfl HOB.out (by rw [List.length_nil, Nat.zero_add]; exact hol) (Nat.le_refl _) ?hk)
      intro v' w3 hown hbel _
      obtain ⟨A4, c4, hv4, -⟩ := hown.form
      subst hv4
      have h23 := hbel w2 (Below.refl _ _)
      clear hbel
      have hws2 : w.heap.size < w2.heap.size := lt_of_block h12
      have h13 : w3.heap[w.heap.size]? = some (.cells (c.cells ov0).toArray 76 (0, 0)) := (h23.block _ hws2).trans h12
      have fz : w3.frozen? ⟨w.heap.size, 37, none⟩ = false := obj_frozen h13 37
      have ce : w3.cell? ⟨w.heap.size, 37, none⟩ = some ov0 := (obj_cell h13 37).trans (by rw [List.getElem?_toArray]; exact cget_tail HH.out.1 4 (by omega))
      clear h12 a37 fz37
      obtain ⟨W4, hW4⟩ : ∃ W4 : World, W4 = w3.setCell ⟨w.heap.size, 37, none⟩ (Value.slice A4 c.out.length c4) := ⟨_, rfl⟩
      have h14 : W4.heap[w.heap.size]? = some (.cells (c.cells (Value.slice A4 c.out.length c4)).toArray 76 (0, 0)) := by rw [hW4, obj_set h13 37 (Value.slice A4 c.out.length c4), List.setIfInBounds_toArray, cset_out HH.out.1]
      have hr4 : W4.rangeAt w.heap.size 0 (c.cells (Value.slice A4 c.out.length c4)) := fun j v hv => (obj_cell h14 (0 + j)).trans (by rw [Nat.zero_add, List.getElem?_toArray]; exact hv)
      have hsz4 : (Tryd.prog.info? 76).map (·.size) = some (c.cells (Value.slice A4 c.out.length c4)).length := by rw [ccells_len HH.out.1]; exact Tryd_sizeCpu2
      have HL := Lib.hid (And.intro hr4 hsz4)
      have hk4 : ∀ g, g ≠ w.heap.size → W4.heap[g]? = w3.heap[g]? := fun g hg => by rw [hW4]; exact Below.heap_setCell w3 ⟨w.heap.size, 37, none⟩ (Value.slice A4 c.out.length c4) g hg
      have hs4 : W4.heap.size = w3.heap.size := by rw [hW4]; simp [World.setCell]
      have hB4 : Below w.heap.size w W4 := by rw [hW4]; exact (hBw.trans (h23.mono hBw.size)).setCell (Nat.le_refl _) _
      have hle4 : w2.heap.size ≤ W4.heap.size := by rw [hs4]; exact h23.size
      have HI := Lib.hid (show Bs W4.heap.size W4 IA inp from (HH.out.2.2.2.2.2.2.1.below hB4).mono hB4.size)
      have hW12 : w.heap.size < w1.heap.size := Nat.lt_of_lt_of_le hbs hB1.size
      have HM := Lib.hid (fun A5 c5 => built_mach (c.cells (Value.slice A4 c.out.length c4)) (ccells_len HH.out.1) (some ⟨p, 0, none⟩) A5 inp.length c5)
      have hlt := hM.lt
      have hown4 : OwnB W4 w2.heap.size (Value.slice A4 c.out.length c4) c.out := hown.keep fun g hg => hk4 g (by have := (hown.block hg).1; omega)
      have hM4 : MemAt W4 p mb fs := hM.keep ((hk4 _ (by omega)).trans (h23.block _ hlt.1)) ((hk4 _ (by omega)).trans (h23.block _ hlt.2.1)) fun f hf => (hk4 _ (by have := hfb f hf; omega)).trans (h23.block _ (hlt.2.2 f hf))
      have HE := Lib.hid (show ∀ (w5 : World) (A5 : Option Addr) (c5 : Nat), OwnB w5 W4.heap.size (.slice A5 inp.length c5) inp → Below W4.heap.size W4 w5 →
          NewPost w c ps inp (.returned (.tuple #[.pointer (some ⟨w5.heap.size, 0, none⟩), .int .i64 0])) (w5.alloc (.cells (c.cells (Value.slice A4 c.out.length c4) ++ [Value.pointer (some ⟨p, 0, none⟩), Value.slice A5 inp.length c5]).toArray 129)) from ?he)
      case he =>
        intro w5 A5 c5 hown5 hB5
        have hB6 : Below W4.heap.size W4 (w5.alloc (.cells (c.cells (Value.slice A4 c.out.length c4) ++ [Value.pointer (some ⟨p, 0, none⟩), Value.slice A5 inp.length c5]).toArray 129)) := hB5.alloc hB5.size _
        have hb5 : ∀ g, Value.ownBlock (.slice A5 inp.length c5) = some g → W4.heap.size ≤ g := fun g hg => (hown5.block hg).1
        have hbv : ∀ g, (Value.slice A4 c.out.length c4).ownBlock = some g → w2.heap.size ≤ g ∧ g < W4.heap.size := fun g hg => by obtain ⟨h1, cur, h2⟩ := hown4.block hg; exact ⟨h1, lt_of_block h2⟩
        refine ⟨hB4.trans (hB6.mono hB4.size), .inr (.inr ⟨hr, h0, w5.heap.size, p, mb, (Value.slice A4 c.out.length c4), .slice A5 inp.length c5, fs, rfl, ?_, hfs, ?_, by omega, by omega, fun g hg => by have := hb5 g hg; have := hB4.size; omega⟩)⟩
        · refine ⟨?_, hM4.below hM4.lt hB6, HH.out.1, HH.out.2.1, HH.out.2.2.1, (hown4.below hB6).base (Nat.zero_le _), (hown5.alloc _).base (Nat.zero_le _), rightB_inn hr, fun g hg hm => ?_, fun g hg => ⟨fun hm => ?_, fun hv => ?_⟩⟩
          · rw [mcells_app]; exact heap_alloc_new w5 _
          · obtain ⟨f, hf, rfl⟩ := List.mem_map.1 hm
            have h1 := (hbv _ hg).1
            have h2 := hlt.2.2 f hf
            omega
          · obtain ⟨f, hf, rfl⟩ := List.mem_map.1 hm
            have h1 := hb5 _ hg
            have h2 := hlt.2.2 f hf
            omega
          · have h1 := hb5 _ hg
            have h2 := (hbv _ hv).2
            omega
        · intro k hk
          rcases hk with rfl | hk | hk
          · have h1 := hB5.size
            have h2 := hB4.size
            omega
          · obtain ⟨f, hf, rfl⟩ := List.mem_map.1 hk
            have := hfb f hf
            omega
          · have h1 := (hbv _ hk).1
            omega
      have HW4 := Lib.hid hW4
      clear hW4 hr4 hsz4 h13 h14 hk4 hown hown4 hM4 hM hB4 hs4 HOB HIB hfs h0 hr hlt hp hmb hfb h23
      go_upto_region 7 with fail
      rw [← HW4.out]
      refine wp_region_any (by kernel_rfl) ?_
      change wpAny _ _ _ _ _ _ _ (World.drew _)
      refine wpAny_take (i := 1) (v := .pointer (some ⟨p, 0, none⟩)) rfl (by kernel_rfl) (by kernel_rfl) (by kernel_rfl) (fun _ _ _ h => h) (Or.inl ⟨by rfl, ?_⟩) ?_
      · intro w; go_simp
      refine wpAny_take (i := 2) (v := .slice IA inp.length ic) rfl (by kernel_rfl) (by kernel_rfl) (by kernel_rfl) (fun _ _ _ h => h) (Or.inl ⟨by rfl, ?_⟩) ?_
      · intro w; go_simp
      refine wpAny_ready (rs := [0, 3]) (by kernel_rfl) (by simp) ?_
      refine AllReady.cons (o := ⟨some 26, _, _, _, _, _⟩) rfl (fun K hK => ?_) (AllReady.cons (o := ⟨some 29, _, _, _, _, _⟩) rfl (fun K hK => ?_) AllReady.nil)
      · refine step_loadM rfl 76 (.tmp 3) rfl w.heap.size 0 rfl (c.cells (Value.slice A4 c.out.length c4)) _ HL.out.1 Tryd.underlying76 rfl HL.out.2 ?_
        refine hK _ _ ?_
        clear hK K
        refine wpAny_ready (rs := [3]) (by kernel_rfl) (by simp) ?_
        refine AllReady.cons (o := ⟨some 29, _, _, _, _, _⟩) rfl (fun K hK => ?_) AllReady.nil
        refine step_appB rfl _ _ rfl W4.heap.size _ [] rfl (OwnB.nil _ _) W4.heap.size IA inp.length ic inp rfl rfl HI.out (by rw [List.length_nil, Nat.zero_add]; exact hil) (Nat.le_refl _) ?_
        intro v5 w5 hown5 hbel5 _
        rw [List.nil_append] at hown5
        refine hK _ _ ?_
        clear hK K
        have hB5 := hbel5 W4 (Below.refl _ _).drew
        obtain ⟨A5, c5, rfl, hbs5⟩ := hown5.form
        refine wpAny_ready (rs := [4]) (by kernel_rfl) (by simp) ?_
        refine AllReady.cons (o := ⟨some 30, _, _, _, _, _⟩) rfl (fun K hK => ?_) AllReady.nil
        refine step_build3 rfl 129 _ _ _ _ _ _ rfl _ _ _ rfl rfl rfl (c.cells (Value.slice A4 c.out.length c4) ++ [Value.pointer (some ⟨p, 0, none⟩), Value.slice A5 inp.length c5]).toArray (HM.out A5 c5) ?_
        refine hK _ _ ?_
        clear hK K
        refine wpAny_ready (rs := [5]) (by kernel_rfl) (by simp) ?_
        refine AllReady.cons (o := ⟨some 31, _, _, _, _, _⟩) rfl (fun K hK => ?_) AllReady.nil
        go_simp
        refine hK _ _ ?_
        clear hK K
        refine wpAny_ready (rs := [6]) (by kernel_rfl) (by simp) ?_
        refine AllReady.cons (o := ⟨some 6, _, _, _, _, _⟩) rfl (fun K hK => ?_) AllReady.nil
        go_simp
        refine hK _ _ ?_
        clear hK K
        refine wpAny_ready (rs := [7]) (by kernel_rfl) (by simp) ?_
        refine AllReady.cons (o := ⟨some 7, _, _, _, _, _⟩) rfl (fun K hK => ?_) AllReady.nil
        go_simp
        refine hK _ _ ?_
        clear hK K
        refine wpAny_done (by kernel_rfl) ?_ _
        go_wp2
        go_ret2
        exact HE.out w5 A5 c5 hown5 hB5
      · refine step_appB rfl _ _ rfl W4.heap.size _ [] rfl (OwnB.nil _ _) W4.heap.size IA inp.length ic inp rfl rfl HI.out (by rw [List.length_nil, Nat.zero_add]; exact hil) (Nat.le_refl _) ?_
        intro v5 w5 hown5 hbel5 _
        rw [List.nil_append] at hown5
        refine hK _ _ ?_
        clear hK K
        refine wpAny_ready (rs := [0]) (by kernel_rfl) (by simp) ?_
        refine AllReady.cons (o := ⟨some 26, _, _, _, _, _⟩) rfl (fun K hK => ?_) AllReady.nil
        have HL5 := Lib.hid (show w5.rangeAt w.heap.size 0 (c.cells (Value.slice A4 c.out.length c4)) from fun j v hv => ((hbel5 W4 (Below.refl _ _).drew).cell (p := ⟨w.heap.size, 0 + j, none⟩) (Nat.lt_of_lt_of_le hws2 hle4)).trans (HL.out.1 j v hv))
        refine step_loadM rfl 76 (.tmp 3) rfl w.heap.size 0 rfl (c.cells (Value.slice A4 c.out.length c4)) _ HL5.out Tryd.underlying76 rfl HL.out.2 ?_
        refine hK _ _ ?_
        clear hK K
        have hB5 := hbel5 W4 (Below.refl _ _).drew
        obtain ⟨A5, c5, rfl, hbs5⟩ := hown5.form
        refine wpAny_ready (rs := [4]) (by kernel_rfl) (by simp) ?_
        refine AllReady.cons (o := ⟨some 30, _, _, _, _, _⟩) rfl (fun K hK => ?_) AllReady.nil
        refine step_build3 rfl 129 _ _ _ _ _ _ rfl _ _ _ rfl rfl rfl (c.cells (Value.slice A4 c.out.length c4) ++ [Value.pointer (some ⟨p, 0, none⟩), Value.slice A5 inp.length c5]).toArray (HM.out A5 c5) ?_
        refine hK _ _ ?_
        clear hK K
        refine wpAny_ready (rs := [5]) (by kernel_rfl) (by simp) ?_
        refine AllReady.cons (o := ⟨some 31, _, _, _, _, _⟩) rfl (fun K hK => ?_) AllReady.nil
        go_simp
        refine hK _ _ ?_
        clear hK K
        refine wpAny_ready (rs := [6]) (by kernel_rfl) (by simp) ?_
        refine AllReady.cons (o := ⟨some 6, _, _, _, _, _⟩) rfl (fun K hK => ?_) AllReady.nil
        go_simp
        refine hK _ _ ?_
        clear hK K
        refine wpAny_ready (rs := [7]) (by kernel_rfl) (by simp) ?_
        refine AllReady.cons (o := ⟨some 7, _, _, _, _, _⟩) rfl (fun K hK => ?_) AllReady.nil
        go_simp
        refine hK _ _ ?_
        clear hK K
        refine wpAny_done (by kernel_rfl) ?_ _
        go_wp2
        go_ret2
        exact HE.out w5 A5 c5 hown5 hB5
    · have t0 : ((fromE (ps.map PgIn.pg)) != 0) = true := by simpa using h0
      go_wp2
      go_ret2
      exact ⟨(hB.trans (hB1.mono hB.size)).trans (hB2.mono (Nat.le_trans hB.size hB1.size)), .inr (.inl ⟨hr, h0, rfl⟩)⟩
end Go.Proofs
