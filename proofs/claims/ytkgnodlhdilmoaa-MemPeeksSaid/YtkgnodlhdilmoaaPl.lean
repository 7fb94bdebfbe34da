/- Where segments' bytes stand: elf.places, patinaref04.places, counts. -/
import Derived.Test.YtkgnodlhdilmoaaBuf2
import Derived.Test.YtkgnodlhdilmoaaElfChk
namespace Go.Pat
open Go Go.RowKit

def icells (k : IntKind) (l : List Nat) : List Value := l.map fun (n : Nat) => .int k (n : Int)
theorem icells_length (k : IntKind) (l : List Nat) : (icells k l).length = l.length := by simp [icells]
theorem icells_one (k : IntKind) (l : List Nat) : ∀ u ∈ icells k l, u.oneCell' = true := by
  intro u hu
  obtain ⟨_, _, rfl⟩ := List.mem_map.1 hu
  rfl
def endT (ls : List Nat) : Nat → Nat
  | 0 => 64 + 56 * ls.length
  | k + 1 => match ls[k]? with | none => endT ls k | some m => if m = 0 then endT ls k else roundN (endT ls k) + m
def plaT (ls : List Nat) : Nat → List Nat
  | 0 => []
  | k + 1 => plaT ls k ++ [match ls[k]? with | none => 0 | some m => if m = 0 then 0 else roundN (endT ls k)]
theorem plaT_length (ls : List Nat) (k : Nat) : (plaT ls k).length = k := by
  induction k with
  | zero => rfl
  | succ k ih => simp [plaT, ih]
theorem endT_leM {ls : List Nat} (M : Nat) (hM : 4096 ≤ M) (hl : ∀ m ∈ ls, m + 4096 ≤ M) (hn : ls.length ≤ 8) (k : Nat) : endT ls k ≤ 512 + k * M := by
  induction k with
  | zero => simp only [endT]; omega
  | succ k ih =>
    rw [endT, Nat.succ_mul]
    cases hc : ls[k]? with
    | none => simp only; omega
    | some m =>
      have := hl m (List.mem_of_getElem? hc)
      simp only
      split
      · omega
      · simp only [roundN]; omega
theorem endT_le {ls : List Nat} (hl : ∀ m ∈ ls, m ≤ 140737488351232) (hn : ls.length ≤ 8) (k : Nat) (hk : k ≤ 8) : endT ls k ≤ 1125899906843136 := by
  have h1 := endT_leM (ls := ls) 140737488355328 (by decide) (fun m hm => Nat.add_le_add_right (hl m hm) 4096) hn k
  have h2 : k * 140737488355328 ≤ 8 * 140737488355328 := Nat.mul_le_mul_right _ hk
  exact Nat.le_trans h1 (Nat.add_le_add_left h2 512)
end Go.Pat
namespace Go.Proofs
open Go Go.RowKit Go.Pat

theorem Try_elI64 : ElT Try.prog 121 3 (.int .i64 0) 1 8 := ⟨Try.underlying121, by kernel_rfl, rfl, by decide⟩
theorem Try_elU64 : ElT Try.prog 115 23 (.int .u64 0) 1 8 := ⟨Try.underlying115, by kernel_rfl, rfl, by decide⟩

/-- a slice of numbers of the call's own. -/
def OwnI (e : TypeId) (k : IntKind) (w : World) (base : Nat) (v : Value) (l : List Nat) : Prop := w.ownsRow base e 1 v l.length (icells k l)
section
variable {e t : TypeId} {k : IntKind}
theorem OwnI.form {w : World} {base : Nat} {v : Value} {l : List Nat} (h : OwnI e k w base v l) : ∃ A c, v = .slice A l.length c ∧ Cs w.heap.size w A (icells k l) := by
  rcases h.2 with ⟨rfl, h0⟩ | ⟨g, cap, cur, rfl, _, hh, hn, hm, hc, ht⟩
  · exact ⟨none, 0, by rw [h0], fun i hi => by rw [icells_length] at hi; omega⟩
  · exact ⟨_, cap, rfl, Cs.of_own (c := cap) h⟩
theorem OwnI.keep {w w' : World} {base : Nat} {v : Value} {l : List Nat} (h : OwnI e k w base v l) (hb : ∀ g, v.ownBlock = some g → w'.heap[g]? = w.heap[g]?) : OwnI e k w' base v l := by
  refine ⟨h.1, ?_⟩
  rcases h.2 with h0 | ⟨g, cap, cur, rfl, hg, hh, r⟩
  · exact .inl h0
  · exact .inr ⟨g, cap, cur, rfl, hg, (hb g rfl).trans hh, r⟩
theorem OwnI.below {w w' : World} {base : Nat} {v : Value} {l : List Nat} (h : OwnI e k w base v l) (hb : Below w.heap.size w w') : OwnI e k w' base v l := h.keep fun g hg => hb.block g (h.lt g hg).2
theorem OwnI.nil (w : World) (base : Nat) : OwnI e k w base (.slice none 0 0) [] := ⟨rfl, .inl ⟨rfl, rfl⟩⟩
theorem OwnI.alloc {w : World} {base : Nat} {v : Value} {l : List Nat} (h : OwnI e k w base v l) (o : Obj) : OwnI e k (w.alloc o) base v l := h.below ((Below.refl _ _).alloc (Nat.le_refl _) _)
theorem OwnI.base {w : World} {base b2 : Nat} {v : Value} {l : List Nat} (h : OwnI e k w base v l) (hb : b2 ≤ base) : OwnI e k w b2 v l := by
  refine ⟨h.1, ?_⟩
  rcases h.2 with h0 | ⟨g, cap, cur, hv, hg, r⟩
  · exact .inl h0
  · exact .inr ⟨g, cap, cur, hv, by omega, r⟩

theorem wpList_appI {ops : Array Oper} {rest : List Oper} {o : Oper} {a : Act} {Q : Exit → Act → World → Prop} (hE : ElT Try.prog t e (.int k 0) 1 8) (w : World) (hgd : o.guard = none) (s x : Operand)
    (ho : o.op = .call { callee := .builtin .append, args := #[s, x], argTypes := #[t, t] }) (base : Nat) (v : Value) (l : List Nat) (hs : a.eval s = v) (hown : OwnI e k w base v l)
    (B : Nat) (A : Option Addr) (n c : Nat) (m : List Nat) (hx : a.eval x = .slice A n c) (hn : m.length = n) (hr : Cs B w A (icells k m)) (hlen : (l.length + n) * 8 ≤ 140737488355328) (hbase : base ≤ w.heap.size)
    (h : ∀ v' w', OwnI e k w' base v' (l ++ m) → (∀ W, Below base W w → Below base W w') → (∀ g, g < w.heap.size → v.ownBlock ≠ some g → w'.heap[g]? = w.heap[g]?) → wpList Try.prog ops Q rest (a.put o.dst v') w') :
    wpList Try.prog ops Q (o :: rest) a w := by
  refine wpList_app w hgd s x t ho hE base v l.length (icells k l) hs hown B A n c (icells k m) hx (by rw [icells_length, hn, Nat.mul_one]) hr (icells_one k m) (by simp only [maxLen]; omega) hlen hbase ?_
  intro v' w' h1 hg hnil hat
  refine h v' w' ?_ (fun W hW => own_below hown hW hg hbase) (fun g hg1 hg2 => hg.block g hg1 (fun e => hg2 e.symm))
  unfold OwnI
  rw [List.length_append, hn, show icells k (l ++ m) = icells k l ++ icells k m by simp [icells]]
  exact h1
theorem lit_is (w : World) (x : Int) (c : Nat) (t : TypeId) (g : Nat) (hx : x = (c : Int)) (hg : g = w.heap.size) : Cs (w.alloc (.cells #[.int k x] t)).heap.size (w.alloc (.cells #[.int k x] t)) (some ⟨g, 0, none⟩) (icells k [c]) := by
  subst hx
  subst hg
  intro i hi
  obtain rfl : i = 0 := by simp [icells] at hi; omega
  refine ⟨w.heap.size, 0, rfl, by simp, ?_⟩
  unfold World.cell?
  rw [show (w.alloc (.cells #[.int k (c : Int)] t)).heap[w.heap.size]? = some (.cells #[.int k (c : Int)] t) from Array.getElem?_push_size]
  rfl
end

theorem two_cells1 (w : World) (a b : Value) (t : Nat) {w1 : World} (hb : Below (w.heap.size + 1) (w.alloc (.cells #[a, b] t)) w1) :
    w1.cell? ⟨w.heap.size, 0, none⟩ = some a ∧ w1.cell? ⟨w.heap.size, 1, none⟩ = some b := two_cells w a b t (by rw [World.size_alloc]; exact hb)
theorem four_cells1 (w : World) (a b c d : Value) (t : Nat) {w1 : World} (hb : Below (w.heap.size + 1) (w.alloc (.cells #[a, b, c, d] t)) w1) :
    w1.cell? ⟨w.heap.size, 0, none⟩ = some a ∧ w1.cell? ⟨w.heap.size, 1, none⟩ = some b ∧ w1.cell? ⟨w.heap.size, 2, none⟩ = some c ∧ w1.cell? ⟨w.heap.size, 3, none⟩ = some d := four_cells w a b c d t (by rw [World.size_alloc]; exact hb)

set_option maxHeartbeats 4000000 in
theorem eplaces_any (w : World) (A : Option Addr) (cap en : Nat) (ss : List Sg) (hP : SgsAt w.heap.size w A ss) (hn8 : ss.length ≤ 8) :
    Calls Try.prog 72 #[.agg #[.int .u64 en, .slice A ss.length cap]] w fun e w' => ∃ v, e = .returned (.tuple #[v, .int .i64 (endT (ss.map fun s => s.data.length) ss.length : Nat)]) ∧
      OwnI 3 .i64 w' w.heap.size v (plaT (ss.map fun s => s.data.length) ss.length) ∧ Below w.heap.size w w' := by
  have hb0 : Below w.heap.size w (w.alloc (.cells #[.int .u64 en, .slice A ss.length cap] 38)) := (Below.refl _ _).alloc (Nat.le_refl _) _
  have hl : (ss.map fun s => s.data.length).length = ss.length := List.length_map ..
  have hmx : ∀ m ∈ (ss.map fun s => s.data.length), m ≤ 140737488351232 := by
    intro m hm
    obtain ⟨s, hs, rfl⟩ := List.mem_map.1 hm
    exact (hP.small s hs).2.2
  go_enter Try.func72, Try.ntmps72
  go_wp2
  go_loopw [4, 5, 17] (fun ed out i wr => ∃ j : Nat, j ≤ ss.length ∧ i = .int .i64 j ∧ ed = .int .i64 (endT (ss.map fun s => s.data.length) j : Nat) ∧ OwnI 3 .i64 wr (w.heap.size + 1) out (plaT (ss.map fun s => s.data.length) j) ∧
    Below (w.heap.size + 1) (w.alloc (.cells #[.int .u64 (en : Int), .slice A ss.length cap] 38)) wr) (fun _ _ i _ => ss.length - (intOf i).toNat)
  case atStart => exact ⟨0, by omega, rfl, by simp only [endT, hl]; exact congrArg (Value.int .i64) (by omega), .nil _ _, Below.refl _ _⟩
  case round =>
    obtain ⟨j, hj, rfl, rfl, hown, hB⟩ := hrel
    obtain ⟨c0, c1⟩ := two_cells1 _ _ _ _ hB
    have hbs : w.heap.size + 1 ≤ wr.heap.size := by have := hB.size; simpa using this
    have hPj := hP.below (hb0.trans (hB.mono (Nat.le_succ _)))
    have hfew := hP.few
    have hel := endT_le hmx (by omega) j (by omega)
    have hel2 : endT (ss.map fun s => s.data.length) j ≤ 4611686018427387904 := Nat.le_trans hel (by decide)
    by_cases hlt : j < ss.length
    · have hd3 : decide ((j : Int) < (ss.length : Int)) = true := by simp; omega
      obtain ⟨b, o, rfl, hbw, q0, q1, q2, q3⟩ := hPj.cells j hlt
      have hsm := hPj.small ss[j] (List.getElem_mem hlt)
      have hget : (ss.map fun s => s.data.length)[j]? = some ss[j].data.length := by simp [hlt]
      have hB2 := Below.refl (wr.heap.size + 1) (wr.alloc (.cells #[.int .u64 ss[j].addr, .int .i64 ss[j].perm, .slice ss[j].A ss[j].data.length ss[j].cap, .int .u64 ss[j].size] 73))
      obtain ⟨d0, d1, d2, d3⟩ := four_cells1 _ _ _ _ _ _ hB2
      have hBw := hB.trans ((Below.refl _ _).alloc hbs (.cells #[.int .u64 ss[j].addr, .int .i64 ss[j].perm, .slice ss[j].A ss[j].data.length ss[j].cap, .int .u64 ss[j].size] 73))
      clear hB2
      have hpl := plaT_length (ss.map fun s => s.data.length) j
      by_cases hz : ss[j].data.length = 0
      · have e1 : endT (ss.map fun s => s.data.length) (j + 1) = endT (ss.map fun s => s.data.length) j := by rw [endT, hget]; simp only [hz, if_true]
        have e2 : plaT (ss.map fun s => s.data.length) (j + 1) = plaT (ss.map fun s => s.data.length) j ++ [0] := by rw [plaT, hget]; simp only [hz, if_true]
        have HE := Lib.hid (And.intro e1 e2)
        clear e1 e2
        have hz1 : ((ss[j].data.length : Int) == 0) = true := by rw [hz]; rfl
        clear hz
        go_wp2_with (at_builtin; refine wpList_appI Try_elI64 _ rfl _ _ rfl (w.heap.size + 1) _ (plaT (ss.map fun s => s.data.length) j) rfl ((hown.alloc _).alloc _) _ _ 1 1 [0] rfl rfl (lit_is _ _ _ _ _ ?hx ?hg) ?hq ?hb ?hk)
        case hx => rfl
        case hg => simp
        case hq => rw [plaT_length]; omega
        case hb => simp only [World.size_alloc]; omega
        case hk =>
          intro v' w1 hown' hB' _
          have hB1 := hB' (w.alloc (.cells #[.int .u64 (en : Int), .slice (some ⟨b, o, none⟩) ss.length cap] 38)) (hBw.alloc (by rw [World.size_alloc]; omega) _)
          rw [← HE.out.2] at hown'
          clear hB' hown
          go_wp2
          go_roundw
          case rel => exact ⟨j + 1, by omega, by go_num, by rw [HE.out.1], hown', hB1⟩
          case measure => simp [intOf]; omega
      · have e1 : endT (ss.map fun s => s.data.length) (j + 1) = roundN (endT (ss.map fun s => s.data.length) j) + ss[j].data.length := by rw [endT, hget]; simp only [if_neg hz]
        have e2 : plaT (ss.map fun s => s.data.length) (j + 1) = plaT (ss.map fun s => s.data.length) j ++ [roundN (endT (ss.map fun s => s.data.length) j)] := by rw [plaT, hget]; simp only [if_neg hz]
        have HE := Lib.hid (And.intro e1 e2)
        clear e1 e2
        have hz1 : ((ss[j].data.length : Int) == 0) = false := beq_eq_false_iff_ne.2 (by omega)
        have hr : roundN (endT (ss.map fun s => s.data.length) j) ≤ 1125899906843136 + 4095 := by unfold roundN; omega
        go_wp2_with fail
        have q1 := eup_int (endT (ss.map fun s => s.data.length) j : Nat) (endT (ss.map fun s => s.data.length) j) rfl hel2
        have q2 := q1 (wr.alloc (.cells #[.int .u64 ss[j].addr, .int .i64 ss[j].perm, .slice ss[j].A ss[j].data.length ss[j].cap, .int .u64 ss[j].size] 73))
        refine Calls.mono q2 ?_
        rintro e w' ⟨rfl, rfl⟩
        go_wp2_with (at_builtin; refine wpList_appI Try_elI64 _ rfl _ _ rfl (w.heap.size + 1) _ (plaT (ss.map fun s => s.data.length) j) rfl ((hown.alloc _).alloc _) _ _ 1 1 [roundN (endT (ss.map fun s => s.data.length) j)] rfl rfl (lit_is _ _ _ _ _ ?hx ?hg) ?hq ?hb ?hk)
        case hx => rfl
        case hg => simp
        case hq => rw [plaT_length]; omega
        case hb => simp only [World.size_alloc]; omega
        case hk =>
          intro v' w1 hown' hB' hkeep
          have hB1 := hB' (w.alloc (.cells #[.int .u64 (en : Int), .slice (some ⟨b, o, none⟩) ss.length cap] 38)) (hBw.alloc (by rw [World.size_alloc]; omega) _)
          rw [← HE.out.2] at hown'
          have hk2 := hkeep wr.heap.size (by omega) (by intro e; have := (hown.lt _ e).2; omega)
          have d2' := (World.cell?_of_block (a := ⟨wr.heap.size, 2, none⟩) hk2).trans ((World.cell?_alloc_lt _ _ _ (by rw [World.size_alloc]; exact Nat.lt_succ_self _)).trans d2)
          clear hB' hown hkeep hk2
          go_wp2
          go_roundw
          case rel => exact ⟨j + 1, by omega, by go_num, by rw [HE.out.1]; exact congrArg (Value.int .i64) (by omega), hown', hB1⟩
          case measure => simp [intOf]; omega
    · have hd3 : decide ((j : Int) < (ss.length : Int)) = false := by simp; omega
      obtain rfl : j = ss.length := by omega
      go_wp2
      go_ret2
      exact ⟨_, rfl, hown.base (Nat.le_succ _), hb0.trans (hB.mono (Nat.le_succ _))⟩
end Go.Proofs
