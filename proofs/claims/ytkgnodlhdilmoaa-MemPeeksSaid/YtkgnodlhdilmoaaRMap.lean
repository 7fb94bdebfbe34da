/- patinaref02.fresh and Map. -/
import Derived.Test.YtkgnodlhdilmoaaPages
import Derived.Test.YtkgnodlhdilmoaaFetchs
namespace Go.Pat
open Go Go.RowKit Go.Proofs

/-- pages in a slice of the call's own, whose bytes lie below B0 or are its own. -/
structure RefPs (w : World) (B0 B1 : Nat) (v : Value) (ss : List PgIn) : Prop where
  le : B0 ≤ B1
  row : OwnP w B1 v ss
  bytes : ∀ s ∈ ss, Bs B0 w s.A s.data ∨ OwnB w B0 (.slice s.A s.data.length s.cap) s.data
  small : ∀ s ∈ ss, s.base < 18446744073709551616 ∧ s.data.length ≤ 140737488351232

theorem RefPs.below {w w' : World} {B0 B1 : Nat} {v : Value} {ss : List PgIn} (h : RefPs w B0 B1 v ss) (hB : B0 ≤ w.heap.size) (hb : Below w.heap.size w w') : RefPs w' B0 B1 v ss :=
  ⟨h.le, h.row.below hb, fun s hs => (h.bytes s hs).imp (fun x => x.below (hb.mono hB)) (fun x => x.below hb), h.small⟩
theorem RefPs.nil (w : World) (B : Nat) : RefPs w B B (.slice none 0 0) [] := ⟨Nat.le_refl _, .nil w B, by simp, by simp⟩
theorem OwnP.base {w : World} {B B' : Nat} {v : Value} {ss : List PgIn} (h : OwnP w B v ss) (hb : B' ≤ B) : OwnP w B' v ss := by
  refine ⟨h.1, ?_⟩
  rcases h.2 with h0 | ⟨g, cap, cur, rfl, hg, r⟩
  · exact .inl h0
  · exact .inr ⟨g, cap, cur, rfl, Nat.le_trans hb hg, r⟩
theorem RefPs.base {w : World} {B0 B1 B2 : Nat} {v : Value} {ss : List PgIn} (h : RefPs w B0 B1 v ss) (h0 : B0 ≤ B2) (hb : B2 ≤ B1) : RefPs w B0 B2 v ss := ⟨h0, OwnP.base h.row hb, h.bytes, h.small⟩
theorem RefPs.pgs {w : World} {B0 B1 : Nat} {v : Value} {ss : List PgIn} (h : RefPs w B0 B1 v ss) (hB : B0 ≤ w.heap.size) (hf : ss.length ≤ 140737488351232) : ∃ A c, v = .slice A ss.length c ∧ PgsAt w.heap.size w A ss := by
  obtain ⟨A, c, rfl, hc⟩ := h.row.form
  refine ⟨A, c, rfl, fun i hi => ?_, fun s hs => ?_, h.small, hf⟩
  · have hlen := pcells_length ss
    have gt : ∀ j, j < 3 → ∃ b o, A = some ⟨b, o, none⟩ ∧ b < w.heap.size ∧ w.cell? ⟨b, o + (i * 3 + j), none⟩ = (ss[i].cells)[j]? := fun j hj => by
      obtain ⟨b, o, e, hb, hx⟩ := hc (i * 3 + j) (by omega)
      refine ⟨b, o, e, hb, ?_⟩
      rw [hx, ← pcells_get ss i hi j hj, List.getElem?_eq_getElem (by omega)]
    obtain ⟨b, o, rfl, hb, g0⟩ := gt 0 (by omega)
    obtain ⟨b1, o1, e1, _, g1⟩ := gt 1 (by omega)
    obtain ⟨b2, o2, e2, _, g2⟩ := gt 2 (by omega)
    cases e1
    cases e2
    exact ⟨b, o, rfl, hb, g0, g1, g2⟩
  · rcases h.bytes s hs with hb | hb
    · exact hb.mono hB
    · obtain ⟨A2, c2, e, hb⟩ := hb.form
      cases e
      exact hb

/-- a block of pages that turns leaves bytes alone. -/
theorem RefPs.bytesKept {w w' : World} {B0 : Nat} {v : Value} {B1 : Nat} {ss0 ss : List PgIn} (hrow : OwnP w B1 v ss0) (hle : B0 ≤ B1) (hB : B0 ≤ w.heap.size) (hg : w.grownBy w' v.ownBlock) {s : PgIn} (h : Bs B0 w s.A s.data ∨ OwnB w B0 (.slice s.A s.data.length s.cap) s.data) :
    Bs B0 w' s.A s.data ∨ OwnB w' B0 (.slice s.A s.data.length s.cap) s.data := by
  rcases h with h | h
  · left
    refine h.below (Below.grown (Below.refl _ w) hg hB (fun k hk => Nat.le_trans hle (hrow.block hk).1))
  · right
    refine h.keep fun g hgb => ?_
    obtain ⟨_, cur, hc⟩ := h.block hgb
    refine hg.block g (lt_of_block hc) (fun e => ?_)
    obtain ⟨_, cur2, hc2⟩ := hrow.block e.symm
    rw [hc] at hc2
    cases hc2

theorem RefPs.grow {w w' : World} {B0 B1 : Nat} {v v' : Value} {ss : List PgIn} {s : PgIn} (hown : RefPs w B0 B1 v ss) (hB : B0 ≤ w.heap.size) (hsb : Bs B0 w s.A s.data ∨ OwnB w B0 (.slice s.A s.data.length s.cap) s.data)
    (hss : s.base < 18446744073709551616 ∧ s.data.length ≤ 140737488351232) (h1 : w'.ownsRow B1 71 3 v' (ss.length + 1) (pcells ss ++ pcells [s]))
    (hg : w.grownBy w' v.ownBlock) : RefPs w' B0 B1 v' (ss ++ [s]) := by
  refine ⟨hown.le, ?_, fun t ht => ?_, fun t ht => ?_⟩
  · unfold OwnP
    rw [List.length_append, pcells_append]
    exact h1
  · refine RefPs.bytesKept (ss := ss) hown.row hown.le hB hg ?_
    rcases List.mem_append.1 ht with ht | ht
    · exact hown.bytes t ht
    · obtain rfl := List.mem_singleton.1 ht
      exact hsb
  · rcases List.mem_append.1 ht with ht | ht
    · exact hown.small t ht
    · obtain rfl := List.mem_singleton.1 ht
      exact hss

/-- append of one page. -/
theorem wpList_appQ {ops : Array Oper} {rest : List Oper} {o : Oper} {a : Act} {Q : Exit → Act → World → Prop} (w : World) (hgd : o.guard = none) (x y : Operand)
    (ho : o.op = .call { callee := .builtin .append, args := #[x, y], argTypes := #[22, 22] }) (B0 B1 : Nat) (v : Value) (ss : List PgIn) (hx : a.eval x = v) (hown : RefPs w B0 B1 v ss) (hB : B0 ≤ w.heap.size) (hB1 : B1 ≤ w.heap.size)
    (b c : Nat) (s : PgIn) (hy : a.eval y = .slice (some ⟨b, 0, none⟩) 1 c) (hb : w.heap[b]? = some (.cells s.cells.toArray 71 (0, 0))) (hsb : Bs B0 w s.A s.data ∨ OwnB w B0 (.slice s.A s.data.length s.cap) s.data)
    (hss : s.base < 18446744073709551616 ∧ s.data.length ≤ 140737488351232) (hlen : ss.length + 1 ≤ 100000)
    (h : ∀ v' w', RefPs w' B0 B1 v' (ss ++ [s]) → w.grownBy w' v.ownBlock → wpList Go.Proofs.Try.prog ops Q rest (a.put o.dst v') w') :
    wpList Go.Proofs.Try.prog ops Q (o :: rest) a w := by
  have hcs : Cs w.heap.size w (some ⟨b, 0, none⟩) (pcells [s]) := fun i hi => by
    have hi4 : i < 3 := by simpa [pcells, PgIn.cells] using hi
    refine ⟨b, 0, rfl, lt_of_block hb, ?_⟩
    simp only [World.cell?, hb, Nat.zero_add]
    simp [pcells]
  refine wpList_app w hgd x y 22 ho Try_elPg B1 v ss.length (pcells ss) hx hown.row _ (some ⟨b, 0, none⟩) 1 c (pcells [s]) hy (by simp [pcells, PgIn.cells]) hcs (pcells_one [s]) (by simp only [maxLen]; omega) (by omega) hB1 ?_
  intro v' w' h1 hg hnil hat
  exact h v' w' (hown.grow hB hsb hss h1 hg) hg

/-- 'append([]Page{}, l...)'. -/
theorem wpList_copyQ {ops : Array Oper} {rest : List Oper} {o : Oper} {a : Act} {Q : Exit → Act → World → Prop} (w w0 : World) (hgd : o.guard = none) (x y : Operand)
    (ho : o.op = .call { callee := .builtin .append, args := #[x, y], argTypes := #[22, 22] }) (hx : a.eval x = .slice (some ⟨w0.heap.size, 0, none⟩) 0 0) (hw : w = w0.alloc (.cells #[] 71)) (B0 : Nat) (hB0 : B0 ≤ w0.heap.size)
    (A : Option Addr) (n c : Nat) (ss : List PgIn) (hy : a.eval y = .slice A n c) (hn : ss.length = n) (hcs : Cs w0.heap.size w0 A (pcells ss)) (hbytes : ∀ s ∈ ss, Bs B0 w0 s.A s.data ∨ OwnB w0 B0 (.slice s.A s.data.length s.cap) s.data)
    (hsmall : ∀ s ∈ ss, s.base < 18446744073709551616 ∧ s.data.length ≤ 140737488351232) (hlen : n ≤ 100000)
    (h : ∀ v' w', RefPs w' B0 w0.heap.size v' ss → Below w0.heap.size w0 w' → wpList Go.Proofs.Try.prog ops Q rest (a.put o.dst v') w') :
    wpList Go.Proofs.Try.prog ops Q (o :: rest) a w := by
  subst hw
  have hown : (w0.alloc (.cells #[] 71)).ownsRow w0.heap.size 71 3 (.slice (some ⟨w0.heap.size, 0, none⟩) 0 0) 0 [] := World.ownsRow_lit w0 #[] 0 (Nat.le_refl _) (by simp [maxLen]) rfl
  have hb0 : Below w0.heap.size w0 (w0.alloc (.cells #[] 71)) := (Below.refl _ _).alloc (Nat.le_refl _) _
  refine wpList_app _ hgd x y 22 ho Try_elPg w0.heap.size _ 0 [] hx hown w0.heap.size A n c (pcells ss) hy (by rw [pcells_length, hn]) (hcs.below hb0) (pcells_one ss) (by simp only [maxLen]; omega) (by omega) (by simp) ?_
  intro v' w' h1 hg hnil hat
  have hB : Below w0.heap.size w0 w' := own_below hown hb0 hg (by simp)
  refine h v' w' ⟨hB0, ?_, fun s hs => ?_, hsmall⟩ hB
  · unfold OwnP
    rw [hn]
    simpa using h1
  · exact (hbytes s hs).imp (fun x => x.below (hB.mono hB0)) (fun x => x.below hB)
end Go.Pat
namespace Go.Proofs
open Go Go.RowKit Go.Pat

theorem wpList_make0 {ops : Array Oper} {rest : List Oper} {o : Oper} {a : Act} {Q : Exit → Act → World → Prop} (w : World) (hgd : o.guard = none) (x y : Operand) (ho : o.op = Op.makeSlice 35 x y)
    (hx : a.eval x = .int .i64 4096) (hy : a.eval y = .int .i64 4096)
    (h : ∀ w', Buf w' w.heap.size zeros → Below w.heap.size w w' → wpList Try.prog ops Q rest (a.put o.dst (.slice (some ⟨w.heap.size, 0, none⟩) 4096 4096)) w') :
    wpList Try.prog ops Q (o :: rest) a w := wpList_makeB w hgd x y ho .i64 4096 hx hy (by decide) (fun w' h1 h2 _ => h w' h1 h2)
theorem Buf.own {w : World} {g base : Nat} {l : List UInt8} (h : Buf w g l) (hg : base ≤ g) (hl : l.length = 4096) : OwnB w base (.slice (some ⟨g, 0, none⟩) l.length 4096) l := by
  refine ⟨by rw [bcells_length, Nat.mul_one], .inr ⟨g, 4096, _, rfl, hg, h, by omega, by decide, by simp [bcells_length, hl], ?_⟩⟩
  rw [Nat.mul_one]
  exact List.take_of_length_le (by simp [bcells_length])
theorem lit_zero (W : World) (a g : Nat) (perm : Int) : (W.alloc (.cells #[.int .u64 (a : Int), .int .i64 perm, .slice (some ⟨g, 0, none⟩) 4096 4096] 71)).heap[W.heap.size]? = some (.cells (PgIn.cells ⟨a, perm, some ⟨g, 0, none⟩, 4096, zeros⟩).toArray 71 (0, 0)) := by
  rw [heap_alloc_new]
  simp [PgIn.cells, zeros_length]

set_option maxRecDepth 20000 in
set_option maxHeartbeats 4000000 in
theorem rfresh2_any (w : World) (B0 B1 : Nat) (v : Value) (ss : List PgIn) (hR : RefPs w B0 B1 v ss) (hB : B0 ≤ w.heap.size) (b : Nat) (perm : Int) (n : Nat) (z : Int) (hz : z = (n : Int)) (hn : ss.length + n ≤ 90000) (hb : b + n * 4096 ≤ 281474976714752) :
    Calls Try.prog 79 #[v, .int .u64 (b : Int), .int .i64 perm, .int .i64 z] w fun e w' => ∃ v' ss', e = .returned v' ∧ RefPs w' B0 w.heap.size v' ss' ∧ ss'.map PgIn.pg = ss.map PgIn.pg ++ fresh b perm n ∧ Below w.heap.size w w' := by
  subst hz
  obtain ⟨A, c, rfl, hcs⟩ := hR.row.form
  have hlen : ss.length ≤ 100000 := by omega
  go_enter Try.func79, Try.ntmps79
  go_wp2_with (at_builtin; refine wpList_copyQ _ w rfl (.tmp 11) (.tmp 12) rfl rfl rfl B0 hB A ss.length c ss rfl rfl hcs hR.bytes hR.small hlen ?h1)
  case h1 =>
    intro v1 w1 hR1 hB1
    have HR := Lib.hid (And.intro hcs hR)
    clear hcs hR
    go_wp2_with fail
    go_loopw [9, 10] (fun out i wr => ∃ (j : Nat) (ps : List PgIn), j ≤ n ∧ i = .int .i64 j ∧ RefPs wr B0 w.heap.size out ps ∧ ps.map PgIn.pg = ss.map PgIn.pg ++ fresh b perm j ∧ Below w.heap.size w wr) (fun _ i _ => n - (intOf i).toNat)
    case atStart => exact ⟨0, ss, by omega, rfl, hR1, by simp [fresh], hB1⟩
    case round =>
      clear hR1 hB1
      obtain ⟨j, ps, hj, rfl, hRr, hps, hBr⟩ := hrel
      have hpl : ps.length = ss.length + j := by have := congrArg List.length hps; simpa [fresh] using this
      have HP := Lib.hid (And.intro hps hpl)
      by_cases hlt : j < n
      · have hd : decide ((j : Int) < (n : Int)) = true := decide_eq_true (by omega)
        have hp1 : ps.length + 1 ≤ 100000 := by omega
        have e1 : IntKind.u64.wrap ((j : Int) * 4096) = (j : Int) * 4096 := by rw [IntKind.wrap_u64]; omega
        have e2 : IntKind.u64.wrap ((b : Int) + (j : Int) * 4096) = ((b + j * 4096 : Nat) : Int) := by rw [IntKind.wrap_u64]; omega
        clear hps hpl
        go_wp2_with (at_make; refine wpList_make0 _ rfl _ _ rfl rfl rfl ?hm)
        case hm =>
          intro w4 hb4 hB4
          obtain ⟨g, hg⟩ : ∃ g, g = wr.heap.size := ⟨_, rfl⟩
          have hgw : w.heap.size ≤ g := by rw [hg]; exact hBr.size
          have hR4 := hRr.below (Nat.le_trans hB hBr.size) hB4
          have hBw : Below w.heap.size w w4 := hBr.trans (hB4.mono hBr.size)
          rw [← hg] at hb4 ⊢
          clear hRr hBr hB4 hg
          have HB := Lib.hid hb4
          have hgs := hb4.lt
          clear hb4
          have hba : Below w4.heap.size w4 (w4.alloc (.cells #[.int .u64 ((b + j * 4096 : Nat) : Int), .int .i64 perm, .slice (some ⟨g, 0, none⟩) 4096 4096] 71)) := (Below.refl _ _).alloc (Nat.le_refl _) _
          go_wp2_with (at_builtin; refine wpList_appQ _ rfl (.tmp 19) (.tmp 28) rfl B0 w.heap.size _ ps rfl (hR4.below (Nat.le_trans hB hBw.size) hba) (Nat.le_trans (Nat.le_trans hB hBw.size) hba.size) (Nat.le_trans hBw.size hba.size) _ _ ⟨b + j * 4096, perm, some ⟨g, 0, none⟩, 4096, zeros⟩ rfl (lit_zero _ _ _ _) (.inr (Buf.own (HB.out.below hba) (Nat.le_trans hB hgw) zeros_length)) ⟨by show b + j * 4096 < _; omega, by show zeros.length ≤ _; rw [zeros_length]; decide⟩ hp1 ?ha)
          case ha =>
            intro v5 w5 hR5 hg5
            have hB5 : Below w.heap.size w w5 := (hBw.trans (hba.mono hBw.size)).grown hg5 (Nat.le_trans hBw.size hba.size) (fun k hk => (hR4.row.block hk).1)
            have HS := Lib.hid (show (ps ++ [(⟨b + j * 4096, perm, some ⟨g, 0, none⟩, 4096, zeros⟩ : PgIn)]).map PgIn.pg = ss.map PgIn.pg ++ fresh b perm (j + 1) by
              rw [List.map_append, HP.out.1, fresh_succ, List.append_assoc]; rfl)
            clear hR4 hg5 hba
            go_wp2
            go_roundw
            case rel => exact ⟨j + 1, _, by omega, by go_num, hR5, HS.out, hB5⟩
            case measure => simp [intOf]; omega
      · have hd : decide ((j : Int) < (n : Int)) = false := decide_eq_false (by omega)
        obtain rfl : j = n := by omega
        go_wp2
        go_ret
        exact ⟨_, ps, rfl, hRr, hps, hBr⟩
end Go.Proofs
