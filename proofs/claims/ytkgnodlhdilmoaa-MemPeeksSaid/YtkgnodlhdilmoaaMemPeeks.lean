/- patinalaw02.MemPeeks: the walk. -/
import Derived.Test.YtkgnodlhdilmoaaPokeA
import Derived.Test.YtkgnodlhdilmoaaMemTwo
namespace Go.Pat
open Go Go.RowKit Go.Proofs
theorem _root_.Go.Proofs.OwnB.keptBut {S : Nat → Prop} {w w' : World} {base : Nat} {v : Value} {l : List UInt8} (h : OwnB w base v l) (hk : KeptBut S w w') (hS : ∀ x, S x → x < base) : OwnB w' base v l := h.keep fun g hg => by
  obtain ⟨h1, cur, hc⟩ := h.block hg
  exact hk.block g (lt_of_block hc) (fun hs => by have := hS g hs; omega)
end Go.Pat
namespace Go.Proofs
open Go Go.RowKit Go.Pat

set_option maxRecDepth 20000 in
set_option maxHeartbeats 8000000 in
theorem MemPeeks_any (w : World) (A : Option Addr) (cap at_ v : Nat) (k : Int) (ps : List PgIn) (hP : PgsAt w.heap.size w A ps) (hat : at_ < 18446744073709551616) (_ : v < 18446744073709551616)
    (Ab : Option Addr) (nb cb : Nat) (bs : List UInt8) (hBs : Bs w.heap.size w Ab bs) (hnb : bs.length = nb) (hnbl : nb ≤ 140737488351232) :
    Calls Try.prog 17 #[.agg #[.slice A ps.length cap, .int .u64 at_, .int .i64 k, .int .u64 v], .slice Ab nb cb] w fun e w' => e = .returned (.bool true) ∧ Below w.heap.size w w' := by
  obtain ⟨W0, hW0⟩ : ∃ W0, W0 = w.alloc (.cells #[.slice A ps.length cap, .int .u64 at_, .int .i64 k, .int .u64 v] 25) := ⟨_, rfl⟩
  have hb0 : Below w.heap.size w W0 := by rw [hW0]; exact (Below.refl _ _).alloc (Nat.le_refl _) _
  have hP0 : PgsAt W0.heap.size W0 A ps := PgsAt.mono (hP.below hb0) hb0.size
  have hBs0 : Bs W0.heap.size W0 Ab bs := (hBs.below hb0).mono hb0.size
  have hcc : ∀ w1, Below W0.heap.size W0 w1 → w1.cell? ⟨w.heap.size, 0, none⟩ = some (.slice A ps.length cap) ∧ w1.cell? ⟨w.heap.size, 1, none⟩ = some (.int .u64 at_) ∧ w1.cell? ⟨w.heap.size, 2, none⟩ = some (.int .i64 k) ∧ w1.cell? ⟨w.heap.size, 3, none⟩ = some (.int .u64 v) := by
    rw [hW0]; exact fun w1 h => case_cells _ _ _ _ _ _ h
  obtain ⟨c0, c1, c2, c3⟩ := hcc W0 (Below.refl _ _)
  have HC := Lib.hid hcc
  have HW := Lib.hid hW0
  have HB := Lib.hid hnb
  clear hcc hW0 hnb hBs hP
  go_enter Try.func17, Try.ntmps17
  go_upto_region 1 with fail
  rw [← HW.out]
  go_wp2_with fail
  refine (From_all _ A cap ps hP0).mono ?_
  intro e w1 hF
  clear c0 c1 c2 c3
  rcases hF with ⟨h0, p, mb, fs, rfl, hfs, hM, hp, hmb, hge, hB⟩ | ⟨h0, rfl, hB⟩
  · have hok := psOK_of h0
    have hpl : fs.length ≤ 90000 := by
      have h1 : ¬ 4096 < (ps.map PgIn.pg).length := fun h => by unfold fromE at h0; rw [if_pos h] at h0; cases h0
      have h2 := congrArg List.length hfs
      simp at h1 h2
      omega
    have hpp : ps.length ≤ 90000 := by have h2 := congrArg List.length hfs; simp at h2; omega
    have hlo : ∀ x ∈ fs.map (·.blk), W0.heap.size ≤ x := fun x hx => by obtain ⟨f, hf, rfl⟩ := List.mem_map.1 hx; exact hge f hf
    have hhi : ∀ x ∈ fs.map (·.blk), x < w1.heap.size := fun x hx => by obtain ⟨f, hf, rfl⟩ := List.mem_map.1 hx; exact hM.lt.2.2 f hf
    have HN := Lib.hid (And.intro h0 (And.intro hfs (And.intro hok (And.intro hpp hpl))))
    have HL := Lib.hid (And.intro hlo hhi)
    clear h0 hfs hok hge hp hmb hpl hpp hlo hhi
    obtain ⟨c0, c1, c2, c3⟩ := HC.out w1 hB
    go_wp2_with fail
    refine Calls.mono (Peek_all w1 p mb fs hM at_ k hat) ?_
    rintro e w2 ⟨v1, rfl, ho1, hB2⟩
    obtain ⟨A1, d1, rfl, -⟩ := ho1.form
    have hb2 := hB.trans (hB2.mono hB.size)
    have hM2 := hM.below hM.lt hB2
    clear c0 c1 c2 c3
    obtain ⟨c0, c1, c2, c3⟩ := HC.out w2 hb2
    go_wp2_with fail
    refine Calls.mono (rPeek2_any w2 A cap ps.length at_ k ps fs ((hP0.below hb2).mono hb2.size) rfl HN.out.2.1 HN.out.2.2.1 hat) ?_
    rintro e w3 ⟨v2, rfl, ho2, hB3⟩
    obtain ⟨A2, d2, rfl, -⟩ := ho2.form
    have hb3 := hb2.trans (hB3.mono hb2.size)
    have hM3 := hM2.below hM2.lt hB3
    have ho13 := ho1.below hB3
    clear c0 c1 c2 c3
    obtain ⟨c0, c1, c2, c3⟩ := HC.out w3 hb3
    go_wp2_with fail
    refine Calls.mono (Poke_any w3 p mb fs hM3 at_ Ab nb cb W0.heap.size bs (hBs0.below hb3) hb3.size HL.out.1 HB.out hat) ?_
    rintro e w4 ⟨rfl, hM4, hk4⟩
    have hb4 : Below W0.heap.size W0 w4 := hb3.trans (hk4.below hb3.size (fun x hx => HL.out.1 x hx))
    have ho14 := ho13.keptBut hk4 (fun x hx => HL.out.2 x hx)
    have ho24 := ho2.keptBut hk4 (fun x hx => Nat.lt_of_lt_of_le (HL.out.2 x hx) hB2.size)
    clear c0 c1 c2 c3 hk4 ho1 ho13 ho2
    obtain ⟨c0, c1, c2, c3⟩ := HC.out w4 hb4
    go_wp2_with fail
    refine Calls.mono (rPoke2_any w4 A cap ps.length at_ ps fs ((hP0.below hb4).mono hb4.size) rfl HN.out.2.2.2.1 HN.out.2.1 HN.out.2.2.1 hat Ab nb cb bs ((hBs0.below hb4).mono hb4.size) HB.out (by omega)) ?_
    rintro e w5 ⟨A', c', qs, rfl, hP5, hl5, hq5, hB5⟩
    have hb5 := hb4.trans (hB5.mono hb4.size)
    have hM5 := hM4.below hM4.lt hB5
    have hsr : (sortF (pokeM fs at_ bs)).map Fr.pg = qs.map PgIn.pg := by
      rw [hq5, sortF_of ((rises_sh (sh_pokeM fs at_ bs) (fs_rises HN.out.2.1 HN.out.2.2.1)).imp Nat.le_of_lt)]
    have hpl5 : (pokeM fs at_ bs).length ≤ 90000 := by
      have h1 := congrArg List.length (sh_pokeM fs at_ bs)
      have h2 := HN.out.2.2.2.2
      simp at h1
      omega
    have HS := Lib.hid (And.intro hsr hpl5)
    obtain ⟨A3, d3, e3, hbs1⟩ := (ho14.below hB5).form
    cases e3
    obtain ⟨A4, d4, e4, hbs2⟩ := (ho24.below hB5).form
    cases e4
    clear c0 c1 c2 c3 hsr hpl5 hq5 ho14 ho24
    generalize peekE fs at_ k = x1 at *
    generalize pokeE fs at_ nb = x2 at *
    generalize peekM fs at_ k = l1 at *
    go_wp2_with fail
    refine Calls.mono (pBytes_any w5 A1 A2 l1.length l1.length d1 d2 _ _ l1 l1 hbs1 hbs2 rfl rfl) ?_
    rw [beq_self_eq_true]
    rintro e w6 ⟨rfl, rfl⟩
    go_wp2_with fail
    refine Calls.mono (same2_any w5 _ (pokeM fs at_ bs) A' ps.length c' qs hM5.memN hP5 hl5 HS.out.2 HS.out.1) ?_
    rintro e w7 ⟨rfl, hB7⟩
    have hfin : Below w.heap.size w w7 := hb0.trans ((hb5.trans (hB7.mono hb5.size)).mono hb0.size)
    go_wp2_with (go_at_call 19; refine (speaks2_true _).mono ?_; rintro e w9 ⟨rfl, hB9⟩)
    go_ret
    exact ⟨rfl, hfin.trans (hB9.mono hfin.size)⟩
  · have hd : (fromE (ps.map PgIn.pg) != 0) = true := by simpa using h0
    go_wp2_with (go_at_call 19; refine (speaks2_true _).mono ?_; rintro e w2 ⟨rfl, hB2⟩)
    go_ret
    exact ⟨rfl, (hb0.trans (hB.mono hb0.size)).trans (hB2.mono (Nat.le_trans hb0.size hB.size))⟩
end Go.Proofs
