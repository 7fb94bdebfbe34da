/- (*Mem).Pages: the pages in the order of their bases, in memory of the call's own. -/
import Derived.Test.YtemngapfnkokiaaGreatDoorProg
import Derived.Test.YtemngapfnkokiaaGreatDoorKeysAll
import Derived.Test.YtemngapfnkokiaaGreatDoorRound
import Derived.Test.YtemngapfnkokiaaGreatDoorBufs
namespace Go.Pat
open Go Go.RowKit Go.Maps Go.Sort Go.Shelf Go.Proofs

theorem FrIn.bs {w : World} {f : Fr} (h : FrIn w f) {B : Nat} (hB : f.blk < B) : Bs B w (some ⟨f.blk, 0, none⟩) f.data := fun i hi => by
  rw [bcells_length] at hi
  refine ⟨f.blk, 0, rfl, hB, ?_⟩
  rw [Nat.zero_add, h.cell i hi]
  simp [bcells, bval]

/-- the blocks of pages of the call's own hold cells. -/
theorem _root_.Go.Proofs.OwnPs.keepNC {w w' : World} {base : Nat} {v : Value} {ss : List PgIn} (h : OwnPs w base v ss) {row : Option Nat} (hg : w.grownBy w' row) (hr : ∀ r, row = some r → ∃ o : Obj, w.heap[r]? = some o ∧ o.isCells = false) : OwnPs w' base v ss := by
  have key : ∀ (g : Nat) (cur : Array Value) (t : TypeId), w.heap[g]? = some (Obj.cells cur t (0, 0)) → w'.heap[g]? = w.heap[g]? := fun g cur t hc => hg.block g (lt_of_block hc) (fun e => by
    obtain ⟨o, ho, hn⟩ := hr g e.symm
    rw [hc] at ho; cases ho; cases hn)
  exact ⟨h.row.keep fun g hgb => by obtain ⟨_, cur, hc⟩ := h.row.block hgb; exact key g cur _ hc,
    fun s hs => (h.bytes s hs).keep fun g hgb => by obtain ⟨_, cur, hc⟩ := (h.bytes s hs).block hgb; exact key g cur _ hc, h.small⟩

/-- what lies in the box between two rounds: the pages so far. -/
def PgsBox (n₀ B : Nat) (W : World) (l : List Pgd) : Prop := ∃ v ss, Boxed W B 28 v ∧ OwnPs W n₀ v ss ∧ ss.map PgIn.pg = l
theorem pgsBox_own {β : Type} (n₀ B : Nat) (f : β → List Pgd) : Own (fun s W => PgsBox n₀ B W (f s)) := by
  rintro s X Y row ⟨v, ss, hv, ho, he⟩ hg hrow
  refine ⟨v, ss, hv.kept hg (fun e' => ?_), ho.keepNC hg hrow, he⟩
  obtain ⟨o, ho, hc⟩ := hrow B e'.symm
  rw [show X.heap[B]? = _ from hv] at ho; cases ho; cases hc
theorem PgsBox.alloc {n₀ B : Nat} {W : World} {l : List Pgd} (h : PgsBox n₀ B W l) (o : Obj) : PgsBox n₀ B (W.alloc o) l := by
  obtain ⟨v, ss, hv, ho, he⟩ := h
  exact ⟨v, ss, hv.alloc o, ho.keepNC (World.grownBy_alloc W o none) (fun r e => by cases e), he⟩

/-- a page is appended to the pages in the box. -/
theorem pages_fin {n₀ B : Nat} {W w2 w4 : World} {v v4 : Value} {ss ss4 : List PgIn} {c : Array Value} (hv : Boxed W B 28 v) (hB : n₀ ≤ B) (hn₀ : n₀ ≤ W.heap.size) (ho : OwnPs W n₀ v ss) (h2 : Below W.heap.size W w2)
    (h4g : (w2.alloc (.cells c 54)).grownBy w4 v.ownBlock) (h4 : OwnPs w4 n₀ v4 ss4) :
    KeepsOthers W (w4.setCell ⟨B, 0, none⟩ v4) ∧ KpM n₀ W (w4.setCell ⟨B, 0, none⟩ v4) ∧ Boxed (w4.setCell ⟨B, 0, none⟩ v4) B 28 v4 ∧ OwnPs (w4.setCell ⟨B, 0, none⟩ v4) n₀ v4 ss4 := by
  have hv2 : Boxed w2 B 28 v := (h2.block B hv.lt).trans hv
  have ho2 : OwnPs w2 n₀ v ss := ho.below h2
  obtain ⟨hb1, hb2, hb3, hb4, hb5⟩ := hv2.appended (by decide) ho2.row (Nat.le_trans hn₀ h2.size) hB h4.row h4g
  have k2 : KeepsOthers W w2 := ⟨h2.size, fun k o hk _ => (h2.block k (Array.getElem?_eq_some_iff.1 hk).1).trans hk⟩
  refine ⟨k2.trans hb4, ⟨(h2.mono hn₀).trans hb5, ((KeptT.below h2).trans (KeptT.grown (World.grownBy_alloc w2 (.cells c 54) none) (fun _ _ _ _ _ => by simp))).trans ((KeptT.grown h4g ?_).trans (KeptT.grown (grownBy_setCell' w4 B v4) ?_))⟩, hb2, h4.keepT ?_⟩
  · intro k cur t ht hk e
    obtain ⟨_, cur2, hc2⟩ := ho2.row.block e.symm
    have hk2 : w2.heap[k]? = some (Obj.cells cur2 54 (0, 0)) := hc2
    rw [Below.heap_alloc _ _ k (Array.getElem?_eq_some_iff.1 hk2).1, hk2] at hk
    cases hk
    rcases ht with ht | ht <;> cases ht
  · intro k cur t ht hk e
    cases e
    rw [show w4.heap[B]? = _ from hb1] at hk
    cases hk
    rcases ht with ht | ht <;> cases ht
  · intro g cur t hg ht
    refine Below.heap_setCell _ _ _ g (fun e => ?_)
    have e : g = B := e
    subst e
    rw [show w4.heap[g]? = _ from hb1] at hg
    cases hg
    rcases ht with ht | ht <;> cases ht

/-- behind the copy of a page's bytes. -/
theorem pages_call {n₀ B Bx : Nat} {W w2 : World} {v v2 a b : Value} {ss : List PgIn} {data : List UInt8} (hv : Boxed W B 28 v) (ho : OwnPs W n₀ v ss) (bX : W.heap[Bx]? = some (Obj.cells #[a, b] 67 (0, 0))) (hn₀ : n₀ ≤ W.heap.size)
    (hown2 : OwnB w2 W.drew.heap.size v2 data) (hb2 : Below W.drew.heap.size W.drew w2) :
    Below W.heap.size W w2 ∧ (w2.cell? ⟨Bx, 0, none⟩ = some a ∧ w2.cell? ⟨Bx, 1, none⟩ = some b) ∧ w2.cell? ⟨B, 0, none⟩ = some v ∧ ∃ A2 c2, v2 = .slice A2 data.length c2 ∧ OwnB w2 n₀ (.slice A2 data.length c2) data ∧ OwnPs w2 n₀ v ss := by
  have h2 : Below W.heap.size W w2 := (Below.refl _ W).drew.trans hb2
  have hX : w2.heap[Bx]? = some (Obj.cells #[a, b] 67 (0, 0)) := (h2.block Bx (lt_of_block bX)).trans bX
  obtain ⟨A2, c2, rfl, _⟩ := hown2.form
  exact ⟨h2, ⟨by rw [cell_of_row w2 Bx 0 _ _ _ hX]; rfl, by rw [cell_of_row w2 Bx 1 _ _ _ hX]; rfl⟩, ((h2.cell (p := ⟨B, 0, none⟩) hv.lt).trans hv.cell), A2, c2, rfl, hown2.base hn₀, ho.below h2⟩
/-- behind the append. -/
theorem pages_app {n₀ B Bx : Nat} {W w2 w4 : World} {v v4 a b : Value} {ss ss4 : List PgIn} {c : Array Value} (hv : Boxed W B 28 v) (hB : n₀ ≤ B) (hn₀ : n₀ ≤ W.heap.size) (ho : OwnPs W n₀ v ss) (bX : W.heap[Bx]? = some (Obj.cells #[a, b] 67 (0, 0))) (h2 : Below W.heap.size W w2)
    (h4g : (w2.alloc (.cells c 54)).grownBy w4 v.ownBlock) (h4 : OwnPs w4 n₀ v4 ss4) :
    (w4.cell? ⟨Bx, 0, none⟩ = some a ∧ w4.cell? ⟨Bx, 1, none⟩ = some b) ∧ w4.cell? ⟨B, 0, none⟩ = some v ∧ w4.frozen? ⟨B, 0, none⟩ = false := by
  have hv2 : Boxed w2 B 28 v := (h2.block B hv.lt).trans hv
  have ho2 : OwnPs w2 n₀ v ss := ho.below h2
  obtain ⟨hb1, -, -, -, -⟩ := hv2.appended (by decide) ho2.row (Nat.le_trans hn₀ h2.size) hB h4.row h4g
  have hX2 : w2.heap[Bx]? = some (Obj.cells #[a, b] 67 (0, 0)) := (h2.block Bx (lt_of_block bX)).trans bX
  have hX : w4.heap[Bx]? = some (Obj.cells #[a, b] 67 (0, 0)) := by
    refine (h4g.block Bx (by have := lt_of_block hX2; simp; omega) (fun e => ?_)).trans ((Below.heap_alloc _ _ Bx (lt_of_block hX2)).trans hX2)
    obtain ⟨_, cur2, hc2⟩ := ho2.row.block e.symm
    rw [hX2] at hc2
    cases hc2
  exact ⟨⟨by rw [cell_of_row w4 Bx 0 _ _ _ hX]; rfl, by rw [cell_of_row w4 Bx 1 _ _ _ hX]; rfl⟩, hb1.cell, hb1.frozen⟩

attribute [local go_sem] Oper.semAt_some

set_option maxRecDepth 100000 in
set_option maxHeartbeats 4000000 in
theorem Pages_in (n : Nat) (hn : 8 ≤ n) (q : Option Addr) (fs : List Fr) (hlen : fs.length ≤ 90000) (w : World) (hM : MemN w.heap.size w q fs) :
    CallsIn Fence.wide n Go.Proofs.Tryz.prog 22 #[.pointer q] w fun e w' => ∃ v ss, e = .returned v ∧ OwnPs w' w.heap.size v ss ∧ ss.map PgIn.pg = (sortF fs).map Fr.pg ∧ Below w.heap.size w w' := by
  have h1 : 1 ≤ n := by omega
  have hf : Fence.wide.fn 22 := trivial
  have hf2 : Fence.wide.fn 41 := trivial
  have hf3 : Fence.wide.fn 60 := trivial
  have hf4 : Fence.wide.fn 25 := trivial
  refine callsIn_of_wp_marks Go.Proofs.Tryz.func22 rfl hf ?_ rfl
  simp only [Go.Proofs.Tryz.ntmps22, List.size_toArray, List.length_cons, List.length_nil, Nat.reduceAdd, Nat.reduceSub, Array.replicate_succ, Array.replicate_zero, List.push_toArray, List.append_toArray, List.nil_append, List.cons_append]
  gi_wp2_with (gi_at_call 41; refine (all_in (n - 1) q _).mono ?_; rintro e w' ⟨rfl, rfl⟩)
  have bO := (Boxed.new w 28 (.slice none 0 0)).alloc (.cells #[.pointer q] 47)
  have bN := Boxed.new (w.alloc (.cells #[.slice none 0 0] 28)) 47 (.pointer q)
  rw [World.size_alloc] at bN
  have hB0 : Below w.heap.size w ((w.alloc (.cells #[.slice none 0 0] 28)).alloc (.cells #[.pointer q] 47)) := ((Below.refl _ w).alloc (Nat.le_refl _) _).alloc (by simp) _
  have hsz : ((w.alloc (.cells #[.slice none 0 0] 28)).alloc (.cells #[.pointer q] 47)).heap.size = w.heap.size + 2 := by simp
  obtain ⟨W0, hW0⟩ : ∃ W0, (w.alloc (.cells #[.slice none 0 0] 28)).alloc (.cells #[.pointer q] 47) = W0 := ⟨_, rfl⟩
  rw [hW0] at bO bN hB0 hsz ⊢
  clear hW0
  refine wpIn_rangeFunc_ownH rfl h1 (gf := 60) (lb := #[.pointer (some ⟨w.heap.size + 1, 0, none⟩)]) rfl hf3 (enters_of Go.Proofs.Tryz.func60 (by kernel_rfl) rfl)
    (all_stops (n - 1) (by omega) (w.heap.size + 1) w.heap.size q fs W0 (by omega) (by omega) bN (hM.below hB0)) kpM_t (kpM_b (by omega)) (Below.refl _ _) (fun _ => rfl)
    (fun pre W => (PgsBox w.heap.size w.heap.size W ((pre.map (·.1)).map Fr.pg) ∧ Below w.heap.size w W) ∧ pre.length ≤ fs.length)
    (fun _ _ _ => False)
    (OwnFrom.and (OwnFrom.and (Own.from (pgsBox_own _ _ _) _) (ownFrom_below (Nat.le_refl _) (by omega))) (ownFrom_pure _ _))
    (fun _ _ _ _ _ hs _ _ => hs)
    ⟨⟨⟨_, [], bO, .nil _ _, rfl⟩, hB0⟩, by simp⟩
    (fun x a' W => ∃ Bx, w.heap.size < Bx ∧ W.heap[Bx]? = some (Obj.cells #[.int .i64 x.1.perm, .slice (some ⟨x.1.blk, 0, none⟩) 4096 x.1.cap] 67 (0, 0)) ∧
      a' = { tmps := #[.pointer q, undef, .slice none 0 0, .pointer (some ⟨w.heap.size, 0, none⟩), .int .u64 (x.1.base : Int), .pointer (some ⟨Bx, 0, none⟩), .pointer q, .func (.func 60) #[] #[.pointer (some ⟨w.heap.size + 1, 0, none⟩)], .int .u64 (x.1.base : Int), .agg #[.int .i64 x.1.perm, .slice (some ⟨x.1.blk, 0, none⟩) 4096 x.1.cap], undef, undef, undef, undef, undef, undef, undef, undef, undef, undef, undef], defers := [] })
    (fun x a' _ X Y row hs hg hr => by
      obtain ⟨Bx, h1, h2, h3⟩ := hs
      exact ⟨Bx, h1, (hg.block Bx (lt_of_block h2) (fun e => by obtain ⟨_, o, ho, hc⟩ := hr Bx e.symm; rw [h2] at ho; cases ho; cases hc)).trans h2, h3⟩)
    ?assign ?body ?done ?stop
  case assign =>
    rintro l pre x W K ⟨⟨bP, hB⟩, hle⟩ hK
    gi_wp2
    have hlB : w.heap.size < W.heap.size := by obtain ⟨v, ss, hv, _⟩ := bP; exact hv.lt
    exact hK _ _ ((KeepsOthers.alloc _ _).from _) ⟨(Below.refl _ W).alloc hB.size _, .below ((Below.refl _ W).alloc (Nat.le_refl _) _)⟩ ⟨⟨bP.alloc _, hB.alloc hB.size _⟩, hle⟩ ⟨W.heap.size, hlB, World.alloc_heap_new W _, rfl⟩
  case body =>
    rintro l pre x a' W hl ⟨r, hr⟩ ⟨⟨bP, hB⟩, hle⟩ ⟨Bx, hBx, bX, rfl⟩ hlt
    obtain ⟨v, ss, hv, ho, he⟩ := bP
    obtain ⟨p, mb, hMa, hMb⟩ : ∃ p mb, MemAt W p mb fs ∧ MemBelow w.heap.size p mb fs := by
      rcases hM.below hB with ⟨_, e⟩ | ⟨p, mb, _, h2, h3⟩
      · subst e; exact absurd x.2 (by simp)
      · exact ⟨p, mb, h2, h3⟩
    have hF := hMa.pages x.1 x.2
    have hbs : Bs W.drew.heap.size W.drew (some ⟨x.1.blk, 0, none⟩) x.1.data := FrIn.bs (w := W.drew) hF hF.lt
    have hv0 : W.drew.cell? ⟨w.heap.size, 0, none⟩ = some v := hv.cell
    have hx0 : W.drew.cell? ⟨Bx, 0, none⟩ = some (.int .i64 x.1.perm) := by rw [cell_of_row W.drew Bx 0 _ _ _ bX]; rfl
    have hx1 : W.drew.cell? ⟨Bx, 1, none⟩ = some (.slice (some ⟨x.1.blk, 0, none⟩) 4096 x.1.cap) := by rw [cell_of_row W.drew Bx 1 _ _ _ bX]; rfl
    gi_wp2
    refine wpIn_region_heldR (S := fun w' => w'.cell? ⟨Bx, 0, none⟩ = some (.int .i64 x.1.perm) ∧ w'.cell? ⟨Bx, 1, none⟩ = some (.slice (some ⟨x.1.blk, 0, none⟩) 4096 x.1.cap)) (by kernel_rfl) (by kernel_rfl) (fun ⟨_, _, h⟩ => h) ⟨hx0, hx1⟩ (fun hS => ?_)
    refine wpAnyH_take (i := 1) (v := .int .u64 (x.1.base : Int)) rfl (by kernel_rfl) (by kernel_rfl) (by kernel_rfl) (fun _ _ _ h => h) (Or.inl ⟨by rfl, fun w' _ => by go_simp⟩) hS ?_
    refine wpAnyH_take (i := 2) (v := .pointer (some ⟨Bx, 0, none⟩)) rfl (by kernel_rfl) (by kernel_rfl) (by kernel_rfl) (fun _ _ _ h => h) (Or.inl ⟨by rfl, fun w' _ => by go_simp⟩) hS ?_
    refine wpAnyH_take (i := 3) (v := .int .i64 x.1.perm) rfl (by kernel_rfl) (by kernel_rfl) (by kernel_rfl) (fun _ _ _ h => h) (Or.inl ⟨by rfl, fun w' hS' => by obtain ⟨h1, h2⟩ := hS'; go_simp⟩) hS ?_
    refine wpAnyH_take (i := 4) (v := .pointer (some ⟨Bx, 1, none⟩)) rfl (by kernel_rfl) (by kernel_rfl) (by kernel_rfl) (fun _ _ _ h => h) (Or.inl ⟨by rfl, fun w' _ => by go_simp⟩) hS ?_
    refine wpAnyH_take (i := 5) (v := .slice (some ⟨x.1.blk, 0, none⟩) 4096 x.1.cap) rfl (by kernel_rfl) (by kernel_rfl) (by kernel_rfl) (fun _ _ _ h => h) (Or.inl ⟨by rfl, fun w' hS' => by obtain ⟨h1, h2⟩ := hS'; go_simp⟩) hS ?_
    refine wpAnyH_ready (rs := [0, 6]) (by kernel_rfl) (by simp) ?_
    refine AllReadyH.cons rfl (fun K hK => ?_) (AllReadyH.cons rfl (fun K hK => ?_) AllReadyH.nil)
    · go_simp
      refine hK.out _ _ hS (fun hS => ?_)
      clear hK K
      refine wpAnyH_ready (rs := [6]) (by kernel_rfl) (by simp) ?_
      refine AllReadyH.cons rfl (fun K hK => ?_) AllReadyH.nil
      go_simp
      refine Calls.mono (bclone_n W.drew ⟨x.1.blk, 0, none⟩ 4096 x.1.cap x.1.data hF.1 hbs (by omega)) ?_
      rintro e w2 ⟨v2, rfl, hown2, hne2, hb2⟩
      obtain ⟨h2, hS2, hv2, A2, c2, rfl, hsb, ho2⟩ := pages_call hv ho bX hB.size hown2 hb2
      refine hK.out _ _ hS2 (fun hS => ?_)
      clear hK K hne2 hb2
      refine wpAnyH_take (i := 7) (v := .agg #[.int .u64 (x.1.base : Int), .int .i64 x.1.perm, .slice A2 x.1.data.length c2]) rfl (by kernel_rfl) (by kernel_rfl) (by kernel_rfl) (fun _ _ _ h => h) (Or.inl ⟨by rfl, fun w' _ => by go_simp⟩) hS ?_
      refine wpAnyH_ready (rs := [8]) (by kernel_rfl) (by simp) ?_
      refine AllReadyH.cons rfl (fun K hK => ?_) AllReadyH.nil
      go_simp
      refine hK.out _ _ ⟨(World.cell?_alloc_some _ _ _ (by rw [hS.1]; rfl)).trans hS.1, (World.cell?_alloc_some _ _ _ (by rw [hS.2]; rfl)).trans hS.2⟩ (fun hS => ?_)
      clear hK K
      refine wpAnyH_ready (rs := [9]) (by kernel_rfl) (by simp) ?_
      refine AllReadyH.cons rfl (fun K hK => ?_) AllReadyH.nil
      refine step_appP rfl (.tmp 10) (.tmp 18) rfl w.heap.size v ss (by rfl) (ho2.keepNC (World.grownBy_alloc w2 _ none) (fun r e => by cases e)) w2.heap.size 1 ⟨x.1.base, x.1.perm, A2, c2, x.1.data⟩ (by rfl) (World.alloc_heap_new w2 _) (hsb.keep fun g hg => Below.heap_alloc w2 _ g (hsb.lt g hg).2) ⟨by have := hMa.small x.1 x.2; show x.1.base < _; omega, by have := hF.1; show x.1.data.length ≤ _; omega⟩ (by have := congrArg List.length he; simp at this; omega) (by have := h2.size; have := hB.size; simp; omega) ?_
      intro v4 w4 h4 hg4
      obtain ⟨f1, f2, f3, f4⟩ := pages_fin hv (Nat.le_refl _) hB.size ho h2 hg4 h4
      obtain ⟨hS4, hv4, hf4⟩ := pages_app hv (Nat.le_refl _) hB.size ho bX h2 hg4 h4
      obtain ⟨A4, c4, e4, -⟩ := h4.row.form
      rw [show (ss ++ [(⟨x.1.base, x.1.perm, A2, c2, x.1.data⟩ : PgIn)]).length = ss.length + 1 by simp] at e4
      subst e4
      refine hK.out _ _ hS4 (fun hS => ?_)
      clear hK K
      refine wpAnyH_ready (rs := [10]) (by kernel_rfl) (by simp) ?_
      refine AllReadyH.cons rfl (fun K hK => ?_) AllReadyH.nil
      go_simp
      refine hK.out _ _ ⟨(World.cell?_setCell_far _ _ _ _ (Nat.ne_of_lt hBx)).trans hS4.1, (World.cell?_setCell_far _ _ _ _ (Nat.ne_of_lt hBx)).trans hS4.2⟩ (fun hS => ?_)
      clear hK K
      refine wpAnyH_done (by kernel_rfl) ?_ _
      exact ⟨f1.from _, f2, ⟨⟨_, _, f3, f4, by simp [he, PgIn.pg, Fr.pg]⟩, hB.trans f2.1⟩, by simp; omega⟩
    · go_simp
      refine Calls.mono (bclone_n W.drew ⟨x.1.blk, 0, none⟩ 4096 x.1.cap x.1.data hF.1 hbs (by omega)) ?_
      rintro e w2 ⟨v2, rfl, hown2, hne2, hb2⟩
      obtain ⟨h2, hS2, hv2, A2, c2, rfl, hsb, ho2⟩ := pages_call hv ho bX hB.size hown2 hb2
      refine hK.out _ _ hS2 (fun hS => ?_)
      clear hK K hne2 hb2
      refine wpAnyH_take (i := 7) (v := .agg #[.int .u64 (x.1.base : Int), .int .i64 x.1.perm, .slice A2 x.1.data.length c2]) rfl (by kernel_rfl) (by kernel_rfl) (by kernel_rfl) (fun _ _ _ h => h) (Or.inl ⟨by rfl, fun w' _ => by go_simp⟩) hS ?_
      refine wpAnyH_ready (rs := [0, 8]) (by kernel_rfl) (by simp) ?_
      refine AllReadyH.cons rfl (fun K hK => ?_) (AllReadyH.cons rfl (fun K hK => ?_) AllReadyH.nil)
      · go_simp
        refine hK.out _ _ hS (fun hS => ?_)
        clear hK K
        refine wpAnyH_ready (rs := [8]) (by kernel_rfl) (by simp) ?_
        refine AllReadyH.cons rfl (fun K hK => ?_) AllReadyH.nil
        go_simp
        refine hK.out _ _ ⟨(World.cell?_alloc_some _ _ _ (by rw [hS.1]; rfl)).trans hS.1, (World.cell?_alloc_some _ _ _ (by rw [hS.2]; rfl)).trans hS.2⟩ (fun hS => ?_)
        clear hK K
        refine wpAnyH_ready (rs := [9]) (by kernel_rfl) (by simp) ?_
        refine AllReadyH.cons rfl (fun K hK => ?_) AllReadyH.nil
        refine step_appP rfl (.tmp 10) (.tmp 18) rfl w.heap.size v ss (by rfl) (ho2.keepNC (World.grownBy_alloc w2 _ none) (fun r e => by cases e)) w2.heap.size 1 ⟨x.1.base, x.1.perm, A2, c2, x.1.data⟩ (by rfl) (World.alloc_heap_new w2 _) (hsb.keep fun g hg => Below.heap_alloc w2 _ g (hsb.lt g hg).2) ⟨by have := hMa.small x.1 x.2; show x.1.base < _; omega, by have := hF.1; show x.1.data.length ≤ _; omega⟩ (by have := congrArg List.length he; simp at this; omega) (by have := h2.size; have := hB.size; simp; omega) ?_
        intro v4 w4 h4 hg4
        obtain ⟨f1, f2, f3, f4⟩ := pages_fin hv (Nat.le_refl _) hB.size ho h2 hg4 h4
        obtain ⟨hS4, hv4, hf4⟩ := pages_app hv (Nat.le_refl _) hB.size ho bX h2 hg4 h4
        obtain ⟨A4, c4, e4, -⟩ := h4.row.form
        rw [show (ss ++ [(⟨x.1.base, x.1.perm, A2, c2, x.1.data⟩ : PgIn)]).length = ss.length + 1 by simp] at e4
        subst e4
        refine hK.out _ _ hS4 (fun hS => ?_)
        clear hK K
        refine wpAnyH_ready (rs := [10]) (by kernel_rfl) (by simp) ?_
        refine AllReadyH.cons rfl (fun K hK => ?_) AllReadyH.nil
        go_simp
        refine hK.out _ _ ⟨(World.cell?_setCell_far _ _ _ _ (Nat.ne_of_lt hBx)).trans hS4.1, (World.cell?_setCell_far _ _ _ _ (Nat.ne_of_lt hBx)).trans hS4.2⟩ (fun hS => ?_)
        clear hK K
        refine wpAnyH_done (by kernel_rfl) ?_ _
        exact ⟨f1.from _, f2, ⟨⟨_, _, f3, f4, by simp [he, PgIn.pg, Fr.pg]⟩, hB.trans f2.1⟩, by simp; omega⟩
      · go_simp
        refine hK.out _ _ ⟨(World.cell?_alloc_some _ _ _ (by rw [hS.1]; rfl)).trans hS.1, (World.cell?_alloc_some _ _ _ (by rw [hS.2]; rfl)).trans hS.2⟩ (fun hS => ?_)
        clear hK K
        have hv3 := (World.cell?_alloc_some w2 ⟨w.heap.size, 0, none⟩ (Obj.cells #[.int .u64 (x.1.base : Int), .int .i64 x.1.perm, .slice A2 x.1.data.length c2] 54) (by rw [hv2]; rfl)).trans hv2
        refine wpAnyH_ready (rs := [0]) (by kernel_rfl) (by simp) ?_
        refine AllReadyH.cons rfl (fun K hK => ?_) AllReadyH.nil
        go_simp
        refine hK.out _ _ hS (fun hS => ?_)
        clear hK K
        refine wpAnyH_ready (rs := [9]) (by kernel_rfl) (by simp) ?_
        refine AllReadyH.cons rfl (fun K hK => ?_) AllReadyH.nil
        refine step_appP rfl (.tmp 10) (.tmp 18) rfl w.heap.size v ss (by rfl) (ho2.keepNC (World.grownBy_alloc w2 _ none) (fun r e => by cases e)) w2.heap.size 1 ⟨x.1.base, x.1.perm, A2, c2, x.1.data⟩ (by rfl) (World.alloc_heap_new w2 _) (hsb.keep fun g hg => Below.heap_alloc w2 _ g (hsb.lt g hg).2) ⟨by have := hMa.small x.1 x.2; show x.1.base < _; omega, by have := hF.1; show x.1.data.length ≤ _; omega⟩ (by have := congrArg List.length he; simp at this; omega) (by have := h2.size; have := hB.size; simp; omega) ?_
        intro v4 w4 h4 hg4
        obtain ⟨f1, f2, f3, f4⟩ := pages_fin hv (Nat.le_refl _) hB.size ho h2 hg4 h4
        obtain ⟨hS4, hv4, hf4⟩ := pages_app hv (Nat.le_refl _) hB.size ho bX h2 hg4 h4
        obtain ⟨A4, c4, e4, -⟩ := h4.row.form
        rw [show (ss ++ [(⟨x.1.base, x.1.perm, A2, c2, x.1.data⟩ : PgIn)]).length = ss.length + 1 by simp] at e4
        subst e4
        refine hK.out _ _ hS4 (fun hS => ?_)
        clear hK K
        refine wpAnyH_ready (rs := [10]) (by kernel_rfl) (by simp) ?_
        refine AllReadyH.cons rfl (fun K hK => ?_) AllReadyH.nil
        go_simp
        refine hK.out _ _ ⟨(World.cell?_setCell_far _ _ _ _ (Nat.ne_of_lt hBx)).trans hS4.1, (World.cell?_setCell_far _ _ _ _ (Nat.ne_of_lt hBx)).trans hS4.2⟩ (fun hS => ?_)
        clear hK K
        refine wpAnyH_done (by kernel_rfl) ?_ _
        exact ⟨f1.from _, f2, ⟨⟨_, _, f3, f4, by simp [he, PgIn.pg, Fr.pg]⟩, hB.trans f2.1⟩, by simp; omega⟩
  case done =>
    rintro D ys W hD hS ⟨⟨⟨v, ss, hv, ho, he⟩, hB⟩, hle⟩ hK
    have hc := hv.cell
    gi_wp2
    refine ⟨by simp, .inl ⟨_, _, rfl, run_takeDeferred hK, ?_⟩⟩
    exact ⟨_, results_tmp rfl _ _ _, v, ss, rfl, ho.keepNC (grownBy_putObj' _ D _) (fun r e => by cases e; exact ⟨_, hK, rfl⟩), by rw [he, hS], hB.trans (belowK_b (w := w) (Nat.le_refl _) W D _ _ (by omega) hK rfl rfl)⟩
  case stop =>
    rintro D c pre W _ _ h _
    exact h.elim

theorem Pages_any (q : Option Addr) (fs : List Fr) (hlen : fs.length ≤ 90000) (w : World) (hM : MemN w.heap.size w q fs) :
    Calls Go.Proofs.Tryz.prog 22 #[.pointer q] w fun e w' => ∃ v ss, e = .returned v ∧ OwnPs w' w.heap.size v ss ∧ ss.map PgIn.pg = (sortF fs).map Fr.pg ∧ Below w.heap.size w w' :=
  callsIn_wide.1 (Pages_in 8 (Nat.le_refl _) q fs hlen w hM)
end Go.Pat
