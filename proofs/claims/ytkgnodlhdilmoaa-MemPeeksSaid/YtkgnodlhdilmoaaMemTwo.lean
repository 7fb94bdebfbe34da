/- patinalaw02.MemTwo: the walk. -/
import Derived.Test.YtkgnodlhdilmoaaStoreA
import Derived.Test.YtkgnodlhdilmoaaSameM
namespace Go.Pat
open Go Go.RowKit
theorem KeptBut.mem {S : Nat → Prop} {w w' : World} (hk : KeptBut S w w') {p mb : Nat} {fs : List Fr} (hM : MemAt w p mb fs) (h1 : ¬ S p) (h2 : ¬ S mb) (h3 : ∀ f ∈ fs, ¬ S f.blk) : MemAt w' p mb fs :=
  hM.keep (hk.block p hM.lt.1 h1) (hk.block mb hM.lt.2.1 h2) (fun f hf => hk.block f.blk (hM.lt.2.2 f hf) (h3 f hf))
theorem storeM_blk (fs : List Fr) (a v : Nat) (n : Int) : (storeM fs a v n).map (·.blk) = fs.map (·.blk) := by
  unfold storeM
  split
  · exact storeTo_blk _ _ _ _
  · rfl
theorem storeM_length (fs : List Fr) (a v : Nat) (n : Int) : (storeM fs a v n).length = fs.length := by
  have := congrArg List.length (storeM_blk fs a v n)
  simpa using this
/-- two memories that lie apart: the one below M, the other from M on. -/
structure Two (B0 M : Nat) (w : World) (p mb : Nat) (fs : List Fr) (q mc : Nat) (gs : List Fr) : Prop where
  a : MemAt w p mb fs
  b : MemAt w q mc gs
  lo : p < M ∧ mb < M ∧ ∀ x ∈ fs.map (·.blk), B0 ≤ x ∧ x < M
  hi : M ≤ q ∧ M ≤ mc ∧ ∀ x ∈ gs.map (·.blk), M ≤ x
  le : B0 ≤ M
  few : fs.length ≤ 90000
theorem Two.below {B0 M : Nat} {w w' : World} {p mb q mc : Nat} {fs gs : List Fr} (h : Two B0 M w p mb fs q mc gs) (hb : Below w.heap.size w w') : Two B0 M w' p mb fs q mc gs :=
  ⟨h.a.below h.a.lt hb, h.b.below h.b.lt hb, h.lo, h.hi, h.le, h.few⟩
theorem Two.left {B0 M : Nat} {w w' : World} {p mb q mc : Nat} {fs gs : List Fr} (h : Two B0 M w p mb fs q mc gs) (hB0 : B0 ≤ w.heap.size) {a v : Nat} {n : Int} (hM : MemAt w' p mb (storeM fs a v n)) (hk : KeptBut (fun b => b ∈ fs.map (·.blk)) w w') :
    Two B0 M w' p mb (storeM fs a v n) q mc gs ∧ Below B0 w w' := by
  refine ⟨⟨hM, hk.mem h.b (fun hx => ?_) (fun hx => ?_) (fun f hf hx => ?_), ⟨h.lo.1, h.lo.2.1, by rw [storeM_blk]; exact h.lo.2.2⟩, h.hi, h.le, by rw [storeM_length]; exact h.few⟩, hk.below hB0 (fun k hk => (h.lo.2.2 k hk).1)⟩
  · have := (h.lo.2.2 _ hx).2; have := h.hi.1; omega
  · have := (h.lo.2.2 _ hx).2; have := h.hi.2.1; omega
  · have := (h.lo.2.2 _ hx).2; have := h.hi.2.2 f.blk (List.mem_map.2 ⟨f, hf, rfl⟩); omega
theorem Two.right {B0 M : Nat} {w w' : World} {p mb q mc : Nat} {fs gs : List Fr} (h : Two B0 M w p mb fs q mc gs) (hB0 : B0 ≤ w.heap.size) {a v : Nat} {n : Int} (hM : MemAt w' q mc (storeM gs a v n)) (hk : KeptBut (fun b => b ∈ gs.map (·.blk)) w w') :
    Two B0 M w' p mb fs q mc (storeM gs a v n) ∧ Below B0 w w' := by
  refine ⟨⟨hk.mem h.a (fun hx => ?_) (fun hx => ?_) (fun f hf hx => ?_), hM, h.lo, ⟨h.hi.1, h.hi.2.1, by rw [storeM_blk]; exact h.hi.2.2⟩, h.le, h.few⟩, hk.below hB0 (fun k hk => Nat.le_trans h.le (h.hi.2.2 k hk))⟩
  · have := h.hi.2.2 _ hx; have := h.lo.1; omega
  · have := h.hi.2.2 _ hx; have := h.lo.2.1; omega
  · have := h.hi.2.2 _ hx; have := (h.lo.2.2 f.blk (List.mem_map.2 ⟨f, hf, rfl⟩)).2; omega
end Go.Pat
namespace Go.Proofs
open Go Go.RowKit Go.Pat

set_option maxRecDepth 20000 in
set_option maxHeartbeats 8000000 in
theorem MemTwo_any (w : World) (A : Option Addr) (cap at_ v : Nat) (k : Int) (ps : List PgIn) (hP : PgsAt w.heap.size w A ps) (hat : at_ < 18446744073709551616) (hv : v < 18446744073709551616) (bt u : Nat) (hbt : bt < 18446744073709551616) (hu : u < 18446744073709551616) :
    Calls Try.prog 14 #[.agg #[.slice A ps.length cap, .int .u64 at_, .int .i64 k, .int .u64 v], .int .u64 bt, .int .u64 u] w fun e w' => e = .returned (.bool true) ∧ Below w.heap.size w w' := by
  obtain ⟨W0, hW0⟩ : ∃ W0, W0 = w.alloc (.cells #[.slice A ps.length cap, .int .u64 at_, .int .i64 k, .int .u64 v] 25) := ⟨_, rfl⟩
  have hb0 : Below w.heap.size w W0 := by rw [hW0]; exact (Below.refl _ _).alloc (Nat.le_refl _) _
  have hP0 : PgsAt W0.heap.size W0 A ps := PgsAt.mono (hP.below hb0) hb0.size
  have hcc : ∀ w1, Below W0.heap.size W0 w1 → w1.cell? ⟨w.heap.size, 0, none⟩ = some (.slice A ps.length cap) ∧ w1.cell? ⟨w.heap.size, 1, none⟩ = some (.int .u64 at_) ∧ w1.cell? ⟨w.heap.size, 2, none⟩ = some (.int .i64 k) ∧ w1.cell? ⟨w.heap.size, 3, none⟩ = some (.int .u64 v) := by
    rw [hW0]; exact fun w1 h => case_cells _ _ _ _ _ _ h
  obtain ⟨c0, c1, c2, c3⟩ := hcc W0 (Below.refl _ _)
  have HC := Lib.hid hcc
  have HW := Lib.hid hW0
  clear hcc hW0
  go_enter Try.func14, Try.ntmps14
  go_upto_region 1 with fail
  rw [← HW.out]
  go_wp2_with fail
  refine (From_all _ A cap ps hP0).mono ?_
  intro e w1 hF
  clear c0 c1 c2 c3
  rcases hF with ⟨h0, p, mb, fs, rfl, hfs, hM, hp, hmb, hge, hB⟩ | ⟨h0, rfl, hB⟩
  · obtain ⟨c0, c1, c2, c3⟩ := HC.out w1 hB
    have hok := psOK_of h0
    have hpl : fs.length ≤ 90000 := by
      have h1 : ¬ 4096 < (ps.map PgIn.pg).length := fun h => by unfold fromE at h0; rw [if_pos h] at h0; cases h0
      have h2 := congrArg List.length hfs
      simp at h1 h2
      omega
    have HN := Lib.hid (And.intro h0 (And.intro hfs hok))
    clear h0 hfs hok
    go_wp2_with fail
    refine (From_all _ A cap ps ((hP0.below hB).mono hB.size)).mono ?_
    intro e w2 hF
    rcases hF with ⟨_, q, mc, gs, rfl, hgs, hG, hq, hmc, hge2, hB2⟩ | ⟨h0, rfl, hB2⟩
    · have hb2 := hB.trans (hB2.mono hB.size)
      clear c0 c1 c2 c3
      obtain ⟨c0, c1, c2, c3⟩ := HC.out w2 hb2
      have hT : Two W0.heap.size w1.heap.size w2 p mb fs q mc gs := ⟨hM.below hM.lt hB2, hG, ⟨hM.lt.1, hM.lt.2.1, fun x hx => by obtain ⟨f, hf, rfl⟩ := List.mem_map.1 hx; exact ⟨hge f hf, hM.lt.2.2 f hf⟩⟩, ⟨hq, hmc, fun x hx => by obtain ⟨f, hf, rfl⟩ := List.mem_map.1 hx; exact hge2 f hf⟩, hB.size, hpl⟩
      have HG := Lib.hid hgs
      clear hgs hM hG hge hge2 hpl hp hmb hq hmc hB hB2
      have hfin0 : Below w.heap.size w w2 := hb0.trans (hb2.mono hb0.size)
      by_cases hkk : k = 1 ∨ k = 2 ∨ k = 4 ∨ k = 8
      · by_cases ha : 140737488355328 ≤ at_
        · have hd : decide ((140737488355328 : Int) ≤ (at_ : Int)) = true := decide_eq_true (by omega)
          rcases hkk with rfl | rfl | rfl | rfl
          all_goals
            go_wp2_with (go_at_call 19; refine (speaks2_true _).mono ?_; rintro e w9 ⟨rfl, hB9⟩)
            go_ret
            exact ⟨rfl, hfin0.trans (hB9.mono hfin0.size)⟩
        · have hd : decide ((140737488355328 : Int) ≤ (at_ : Int)) = false := decide_eq_false (by omega)
          by_cases hb : 140737488355328 ≤ bt
          · have hd2 : decide ((140737488355328 : Int) ≤ (bt : Int)) = true := decide_eq_true (by omega)
            rcases hkk with rfl | rfl | rfl | rfl
            all_goals
              go_wp2_with (go_at_call 19; refine (speaks2_true _).mono ?_; rintro e w9 ⟨rfl, hB9⟩)
              go_ret
              exact ⟨rfl, hfin0.trans (hB9.mono hfin0.size)⟩
          · have hd2 : decide ((140737488355328 : Int) ≤ (bt : Int)) = false := decide_eq_false (by omega)
            rcases hkk with rfl | rfl | rfl | rfl
            · by_cases h1 : bt < at_ + 1
              · have d1 : decide ((bt : Int) < (at_ : Int) + 1) = true := decide_eq_true (by omega)
                by_cases h2 : at_ < bt + 1
                · have d2 : decide ((at_ : Int) < (bt : Int) + 1) = true := decide_eq_true (by omega)
                  go_wp2_with (go_at_call 19; refine (speaks2_true _).mono ?_; rintro e w9 ⟨rfl, hB9⟩)
                  go_ret
                  exact ⟨rfl, hfin0.trans (hB9.mono hfin0.size)⟩
                · have d2 : decide ((at_ : Int) < (bt : Int) + 1) = false := decide_eq_false (by omega)
                  have HD := Lib.hid (show at_ + (1 : Int).toNat ≤ bt ∨ bt + (1 : Int).toNat ≤ at_ from .inr (Nat.le_of_not_lt h2))
                  clear h1 h2
                  clear c0 c2 c3
                  obtain ⟨c0, c1, c2, c3⟩ := HC.out w2 hb2
                  go_wp2_with fail
                  refine Calls.mono (Store_all w2 p mb fs hT.a at_ v 1 hat hv) ?_
                  rintro e w3 ⟨rfl, hM3, hk3⟩
                  obtain ⟨hT3, hB3⟩ := hT.left hb2.size hM3 hk3
                  have hb3 := hb2.trans hB3
                  clear c0 c1 c2 c3 hM3 hk3
                  obtain ⟨c0, c1, c2, c3⟩ := HC.out w3 hb3
                  go_wp2_with fail
                  refine Calls.mono (Store_all w3 p mb _ hT3.a bt u 1 hbt hu) ?_
                  rintro e w4 ⟨rfl, hM4, hk4⟩
                  obtain ⟨hT4, hB4⟩ := hT3.left hb3.size hM4 hk4
                  have hb4 := hb3.trans hB4
                  clear c0 c1 c2 c3 hM4 hk4
                  obtain ⟨c0, c1, c2, c3⟩ := HC.out w4 hb4
                  go_wp2_with fail
                  refine Calls.mono (Store_all w4 q mc gs hT4.b bt u 1 hbt hu) ?_
                  rintro e w5 ⟨rfl, hM5, hk5⟩
                  obtain ⟨hT5, hB5⟩ := hT4.right hb4.size hM5 hk5
                  have hb5 := hb4.trans hB5
                  clear c0 c1 c2 c3 hM5 hk5
                  obtain ⟨c0, c1, c2, c3⟩ := HC.out w5 hb5
                  go_wp2_with fail
                  refine Calls.mono (Store_all w5 q mc _ hT5.b at_ v 1 hat hv) ?_
                  rintro e w6 ⟨rfl, hM6, hk6⟩
                  obtain ⟨hT6, hB6⟩ := hT5.right hb5.size hM6 hk6
                  have hb6 := hb5.trans hB6
                  obtain ⟨s1, s2, s3⟩ := store_two (fs := fs) (gs := gs) HN.out.2.1 HG.out HN.out.2.2 at_ v bt u 1 HD.out
                  rw [← s1, s2]
                  have HS := Lib.hid s3
                  clear c0 c1 c2 c3 hM6 hk6 s1 s2 s3 hT3 hT4 hT5 hT
                  generalize storeE fs at_ 1 = x1
                  generalize storeE gs bt 1 = x2
                  go_wp2_with fail
                  refine Calls.mono (Same_any w6 _ _ _ _ hT6.a.memN hT6.b.memN hT6.few HS.out) ?_
                  rintro e w7 ⟨rfl, hB7⟩
                  have hb7 := hb6.trans (hB7.mono hb6.size)
                  have hfin : Below w.heap.size w w7 := hb0.trans (hb7.mono hb0.size)
                  go_wp2_with (go_at_call 19; refine (speaks2_true _).mono ?_; rintro e w9 ⟨rfl, hB9⟩)
                  go_ret
                  exact ⟨rfl, hfin.trans (hB9.mono hfin.size)⟩
              · have d1 : decide ((bt : Int) < (at_ : Int) + 1) = false := decide_eq_false (by omega)
                have HD := Lib.hid (show at_ + (1 : Int).toNat ≤ bt ∨ bt + (1 : Int).toNat ≤ at_ from .inl (Nat.le_of_not_lt h1))
                clear h1
                clear c0 c2 c3
                obtain ⟨c0, c1, c2, c3⟩ := HC.out w2 hb2
                go_wp2_with fail
                refine Calls.mono (Store_all w2 p mb fs hT.a at_ v 1 hat hv) ?_
                rintro e w3 ⟨rfl, hM3, hk3⟩
                obtain ⟨hT3, hB3⟩ := hT.left hb2.size hM3 hk3
                have hb3 := hb2.trans hB3
                clear c0 c1 c2 c3 hM3 hk3
                obtain ⟨c0, c1, c2, c3⟩ := HC.out w3 hb3
                go_wp2_with fail
                refine Calls.mono (Store_all w3 p mb _ hT3.a bt u 1 hbt hu) ?_
                rintro e w4 ⟨rfl, hM4, hk4⟩
                obtain ⟨hT4, hB4⟩ := hT3.left hb3.size hM4 hk4
                have hb4 := hb3.trans hB4
                clear c0 c1 c2 c3 hM4 hk4
                obtain ⟨c0, c1, c2, c3⟩ := HC.out w4 hb4
                go_wp2_with fail
                refine Calls.mono (Store_all w4 q mc gs hT4.b bt u 1 hbt hu) ?_
                rintro e w5 ⟨rfl, hM5, hk5⟩
                obtain ⟨hT5, hB5⟩ := hT4.right hb4.size hM5 hk5
                have hb5 := hb4.trans hB5
                clear c0 c1 c2 c3 hM5 hk5
                obtain ⟨c0, c1, c2, c3⟩ := HC.out w5 hb5
                go_wp2_with fail
                refine Calls.mono (Store_all w5 q mc _ hT5.b at_ v 1 hat hv) ?_
                rintro e w6 ⟨rfl, hM6, hk6⟩
                obtain ⟨hT6, hB6⟩ := hT5.right hb5.size hM6 hk6
                have hb6 := hb5.trans hB6
                obtain ⟨s1, s2, s3⟩ := store_two (fs := fs) (gs := gs) HN.out.2.1 HG.out HN.out.2.2 at_ v bt u 1 HD.out
                rw [← s1, s2]
                have HS := Lib.hid s3
                clear c0 c1 c2 c3 hM6 hk6 s1 s2 s3 hT3 hT4 hT5 hT
                generalize storeE fs at_ 1 = x1
                generalize storeE gs bt 1 = x2
                go_wp2_with fail
                refine Calls.mono (Same_any w6 _ _ _ _ hT6.a.memN hT6.b.memN hT6.few HS.out) ?_
                rintro e w7 ⟨rfl, hB7⟩
                have hb7 := hb6.trans (hB7.mono hb6.size)
                have hfin : Below w.heap.size w w7 := hb0.trans (hb7.mono hb0.size)
                go_wp2_with (go_at_call 19; refine (speaks2_true _).mono ?_; rintro e w9 ⟨rfl, hB9⟩)
                go_ret
                exact ⟨rfl, hfin.trans (hB9.mono hfin.size)⟩
            · by_cases h1 : bt < at_ + 2
              · have d1 : decide ((bt : Int) < (at_ : Int) + 2) = true := decide_eq_true (by omega)
                by_cases h2 : at_ < bt + 2
                · have d2 : decide ((at_ : Int) < (bt : Int) + 2) = true := decide_eq_true (by omega)
                  go_wp2_with (go_at_call 19; refine (speaks2_true _).mono ?_; rintro e w9 ⟨rfl, hB9⟩)
                  go_ret
                  exact ⟨rfl, hfin0.trans (hB9.mono hfin0.size)⟩
                · have d2 : decide ((at_ : Int) < (bt : Int) + 2) = false := decide_eq_false (by omega)
                  have HD := Lib.hid (show at_ + (2 : Int).toNat ≤ bt ∨ bt + (2 : Int).toNat ≤ at_ from .inr (Nat.le_of_not_lt h2))
                  clear h1 h2
                  clear c0 c2 c3
                  obtain ⟨c0, c1, c2, c3⟩ := HC.out w2 hb2
                  go_wp2_with fail
                  refine Calls.mono (Store_all w2 p mb fs hT.a at_ v 2 hat hv) ?_
                  rintro e w3 ⟨rfl, hM3, hk3⟩
                  obtain ⟨hT3, hB3⟩ := hT.left hb2.size hM3 hk3
                  have hb3 := hb2.trans hB3
                  clear c0 c1 c2 c3 hM3 hk3
                  obtain ⟨c0, c1, c2, c3⟩ := HC.out w3 hb3
                  go_wp2_with fail
                  refine Calls.mono (Store_all w3 p mb _ hT3.a bt u 2 hbt hu) ?_
                  rintro e w4 ⟨rfl, hM4, hk4⟩
                  obtain ⟨hT4, hB4⟩ := hT3.left hb3.size hM4 hk4
                  have hb4 := hb3.trans hB4
                  clear c0 c1 c2 c3 hM4 hk4
                  obtain ⟨c0, c1, c2, c3⟩ := HC.out w4 hb4
                  go_wp2_with fail
                  refine Calls.mono (Store_all w4 q mc gs hT4.b bt u 2 hbt hu) ?_
                  rintro e w5 ⟨rfl, hM5, hk5⟩
                  obtain ⟨hT5, hB5⟩ := hT4.right hb4.size hM5 hk5
                  have hb5 := hb4.trans hB5
                  clear c0 c1 c2 c3 hM5 hk5
                  obtain ⟨c0, c1, c2, c3⟩ := HC.out w5 hb5
                  go_wp2_with fail
                  refine Calls.mono (Store_all w5 q mc _ hT5.b at_ v 2 hat hv) ?_
                  rintro e w6 ⟨rfl, hM6, hk6⟩
                  obtain ⟨hT6, hB6⟩ := hT5.right hb5.size hM6 hk6
                  have hb6 := hb5.trans hB6
                  obtain ⟨s1, s2, s3⟩ := store_two (fs := fs) (gs := gs) HN.out.2.1 HG.out HN.out.2.2 at_ v bt u 2 HD.out
                  rw [← s1, s2]
                  have HS := Lib.hid s3
                  clear c0 c1 c2 c3 hM6 hk6 s1 s2 s3 hT3 hT4 hT5 hT
                  generalize storeE fs at_ 2 = x1
                  generalize storeE gs bt 2 = x2
                  go_wp2_with fail
                  refine Calls.mono (Same_any w6 _ _ _ _ hT6.a.memN hT6.b.memN hT6.few HS.out) ?_
                  rintro e w7 ⟨rfl, hB7⟩
                  have hb7 := hb6.trans (hB7.mono hb6.size)
                  have hfin : Below w.heap.size w w7 := hb0.trans (hb7.mono hb0.size)
                  go_wp2_with (go_at_call 19; refine (speaks2_true _).mono ?_; rintro e w9 ⟨rfl, hB9⟩)
                  go_ret
                  exact ⟨rfl, hfin.trans (hB9.mono hfin.size)⟩
              · have d1 : decide ((bt : Int) < (at_ : Int) + 2) = false := decide_eq_false (by omega)
                have HD := Lib.hid (show at_ + (2 : Int).toNat ≤ bt ∨ bt + (2 : Int).toNat ≤ at_ from .inl (Nat.le_of_not_lt h1))
                clear h1
                clear c0 c2 c3
                obtain ⟨c0, c1, c2, c3⟩ := HC.out w2 hb2
                go_wp2_with fail
                refine Calls.mono (Store_all w2 p mb fs hT.a at_ v 2 hat hv) ?_
                rintro e w3 ⟨rfl, hM3, hk3⟩
                obtain ⟨hT3, hB3⟩ := hT.left hb2.size hM3 hk3
                have hb3 := hb2.trans hB3
                clear c0 c1 c2 c3 hM3 hk3
                obtain ⟨c0, c1, c2, c3⟩ := HC.out w3 hb3
                go_wp2_with fail
                refine Calls.mono (Store_all w3 p mb _ hT3.a bt u 2 hbt hu) ?_
                rintro e w4 ⟨rfl, hM4, hk4⟩
                obtain ⟨hT4, hB4⟩ := hT3.left hb3.size hM4 hk4
                have hb4 := hb3.trans hB4
                clear c0 c1 c2 c3 hM4 hk4
                obtain ⟨c0, c1, c2, c3⟩ := HC.out w4 hb4
                go_wp2_with fail
                refine Calls.mono (Store_all w4 q mc gs hT4.b bt u 2 hbt hu) ?_
                rintro e w5 ⟨rfl, hM5, hk5⟩
                obtain ⟨hT5, hB5⟩ := hT4.right hb4.size hM5 hk5
                have hb5 := hb4.trans hB5
                clear c0 c1 c2 c3 hM5 hk5
                obtain ⟨c0, c1, c2, c3⟩ := HC.out w5 hb5
                go_wp2_with fail
                refine Calls.mono (Store_all w5 q mc _ hT5.b at_ v 2 hat hv) ?_
                rintro e w6 ⟨rfl, hM6, hk6⟩
                obtain ⟨hT6, hB6⟩ := hT5.right hb5.size hM6 hk6
                have hb6 := hb5.trans hB6
                obtain ⟨s1, s2, s3⟩ := store_two (fs := fs) (gs := gs) HN.out.2.1 HG.out HN.out.2.2 at_ v bt u 2 HD.out
                rw [← s1, s2]
                have HS := Lib.hid s3
                clear c0 c1 c2 c3 hM6 hk6 s1 s2 s3 hT3 hT4 hT5 hT
                generalize storeE fs at_ 2 = x1
                generalize storeE gs bt 2 = x2
                go_wp2_with fail
                refine Calls.mono (Same_any w6 _ _ _ _ hT6.a.memN hT6.b.memN hT6.few HS.out) ?_
                rintro e w7 ⟨rfl, hB7⟩
                have hb7 := hb6.trans (hB7.mono hb6.size)
                have hfin : Below w.heap.size w w7 := hb0.trans (hb7.mono hb0.size)
                go_wp2_with (go_at_call 19; refine (speaks2_true _).mono ?_; rintro e w9 ⟨rfl, hB9⟩)
                go_ret
                exact ⟨rfl, hfin.trans (hB9.mono hfin.size)⟩
            · by_cases h1 : bt < at_ + 4
              · have d1 : decide ((bt : Int) < (at_ : Int) + 4) = true := decide_eq_true (by omega)
                by_cases h2 : at_ < bt + 4
                · have d2 : decide ((at_ : Int) < (bt : Int) + 4) = true := decide_eq_true (by omega)
                  go_wp2_with (go_at_call 19; refine (speaks2_true _).mono ?_; rintro e w9 ⟨rfl, hB9⟩)
                  go_ret
                  exact ⟨rfl, hfin0.trans (hB9.mono hfin0.size)⟩
                · have d2 : decide ((at_ : Int) < (bt : Int) + 4) = false := decide_eq_false (by omega)
                  have HD := Lib.hid (show at_ + (4 : Int).toNat ≤ bt ∨ bt + (4 : Int).toNat ≤ at_ from .inr (Nat.le_of_not_lt h2))
                  clear h1 h2
                  clear c0 c2 c3
                  obtain ⟨c0, c1, c2, c3⟩ := HC.out w2 hb2
                  go_wp2_with fail
                  refine Calls.mono (Store_all w2 p mb fs hT.a at_ v 4 hat hv) ?_
                  rintro e w3 ⟨rfl, hM3, hk3⟩
                  obtain ⟨hT3, hB3⟩ := hT.left hb2.size hM3 hk3
                  have hb3 := hb2.trans hB3
                  clear c0 c1 c2 c3 hM3 hk3
                  obtain ⟨c0, c1, c2, c3⟩ := HC.out w3 hb3
                  go_wp2_with fail
                  refine Calls.mono (Store_all w3 p mb _ hT3.a bt u 4 hbt hu) ?_
                  rintro e w4 ⟨rfl, hM4, hk4⟩
                  obtain ⟨hT4, hB4⟩ := hT3.left hb3.size hM4 hk4
                  have hb4 := hb3.trans hB4
                  clear c0 c1 c2 c3 hM4 hk4
                  obtain ⟨c0, c1, c2, c3⟩ := HC.out w4 hb4
                  go_wp2_with fail
                  refine Calls.mono (Store_all w4 q mc gs hT4.b bt u 4 hbt hu) ?_
                  rintro e w5 ⟨rfl, hM5, hk5⟩
                  obtain ⟨hT5, hB5⟩ := hT4.right hb4.size hM5 hk5
                  have hb5 := hb4.trans hB5
                  clear c0 c1 c2 c3 hM5 hk5
                  obtain ⟨c0, c1, c2, c3⟩ := HC.out w5 hb5
                  go_wp2_with fail
                  refine Calls.mono (Store_all w5 q mc _ hT5.b at_ v 4 hat hv) ?_
                  rintro e w6 ⟨rfl, hM6, hk6⟩
                  obtain ⟨hT6, hB6⟩ := hT5.right hb5.size hM6 hk6
                  have hb6 := hb5.trans hB6
                  obtain ⟨s1, s2, s3⟩ := store_two (fs := fs) (gs := gs) HN.out.2.1 HG.out HN.out.2.2 at_ v bt u 4 HD.out
                  rw [← s1, s2]
                  have HS := Lib.hid s3
                  clear c0 c1 c2 c3 hM6 hk6 s1 s2 s3 hT3 hT4 hT5 hT
                  generalize storeE fs at_ 4 = x1
                  generalize storeE gs bt 4 = x2
                  go_wp2_with fail
                  refine Calls.mono (Same_any w6 _ _ _ _ hT6.a.memN hT6.b.memN hT6.few HS.out) ?_
                  rintro e w7 ⟨rfl, hB7⟩
                  have hb7 := hb6.trans (hB7.mono hb6.size)
                  have hfin : Below w.heap.size w w7 := hb0.trans (hb7.mono hb0.size)
                  go_wp2_with (go_at_call 19; refine (speaks2_true _).mono ?_; rintro e w9 ⟨rfl, hB9⟩)
                  go_ret
                  exact ⟨rfl, hfin.trans (hB9.mono hfin.size)⟩
              · have d1 : decide ((bt : Int) < (at_ : Int) + 4) = false := decide_eq_false (by omega)
                have HD := Lib.hid (show at_ + (4 : Int).toNat ≤ bt ∨ bt + (4 : Int).toNat ≤ at_ from .inl (Nat.le_of_not_lt h1))
                clear h1
                clear c0 c2 c3
                obtain ⟨c0, c1, c2, c3⟩ := HC.out w2 hb2
                go_wp2_with fail
                refine Calls.mono (Store_all w2 p mb fs hT.a at_ v 4 hat hv) ?_
                rintro e w3 ⟨rfl, hM3, hk3⟩
                obtain ⟨hT3, hB3⟩ := hT.left hb2.size hM3 hk3
                have hb3 := hb2.trans hB3
                clear c0 c1 c2 c3 hM3 hk3
                obtain ⟨c0, c1, c2, c3⟩ := HC.out w3 hb3
                go_wp2_with fail
                refine Calls.mono (Store_all w3 p mb _ hT3.a bt u 4 hbt hu) ?_
                rintro e w4 ⟨rfl, hM4, hk4⟩
                obtain ⟨hT4, hB4⟩ := hT3.left hb3.size hM4 hk4
                have hb4 := hb3.trans hB4
                clear c0 c1 c2 c3 hM4 hk4
                obtain ⟨c0, c1, c2, c3⟩ := HC.out w4 hb4
                go_wp2_with fail
                refine Calls.mono (Store_all w4 q mc gs hT4.b bt u 4 hbt hu) ?_
                rintro e w5 ⟨rfl, hM5, hk5⟩
                obtain ⟨hT5, hB5⟩ := hT4.right hb4.size hM5 hk5
                have hb5 := hb4.trans hB5
                clear c0 c1 c2 c3 hM5 hk5
                obtain ⟨c0, c1, c2, c3⟩ := HC.out w5 hb5
                go_wp2_with fail
                refine Calls.mono (Store_all w5 q mc _ hT5.b at_ v 4 hat hv) ?_
                rintro e w6 ⟨rfl, hM6, hk6⟩
                obtain ⟨hT6, hB6⟩ := hT5.right hb5.size hM6 hk6
                have hb6 := hb5.trans hB6
                obtain ⟨s1, s2, s3⟩ := store_two (fs := fs) (gs := gs) HN.out.2.1 HG.out HN.out.2.2 at_ v bt u 4 HD.out
                rw [← s1, s2]
                have HS := Lib.hid s3
                clear c0 c1 c2 c3 hM6 hk6 s1 s2 s3 hT3 hT4 hT5 hT
                generalize storeE fs at_ 4 = x1
                generalize storeE gs bt 4 = x2
                go_wp2_with fail
                refine Calls.mono (Same_any w6 _ _ _ _ hT6.a.memN hT6.b.memN hT6.few HS.out) ?_
                rintro e w7 ⟨rfl, hB7⟩
                have hb7 := hb6.trans (hB7.mono hb6.size)
                have hfin : Below w.heap.size w w7 := hb0.trans (hb7.mono hb0.size)
                go_wp2_with (go_at_call 19; refine (speaks2_true _).mono ?_; rintro e w9 ⟨rfl, hB9⟩)
                go_ret
                exact ⟨rfl, hfin.trans (hB9.mono hfin.size)⟩
            · by_cases h1 : bt < at_ + 8
              · have d1 : decide ((bt : Int) < (at_ : Int) + 8) = true := decide_eq_true (by omega)
                by_cases h2 : at_ < bt + 8
                · have d2 : decide ((at_ : Int) < (bt : Int) + 8) = true := decide_eq_true (by omega)
                  go_wp2_with (go_at_call 19; refine (speaks2_true _).mono ?_; rintro e w9 ⟨rfl, hB9⟩)
                  go_ret
                  exact ⟨rfl, hfin0.trans (hB9.mono hfin0.size)⟩
                · have d2 : decide ((at_ : Int) < (bt : Int) + 8) = false := decide_eq_false (by omega)
                  have HD := Lib.hid (show at_ + (8 : Int).toNat ≤ bt ∨ bt + (8 : Int).toNat ≤ at_ from .inr (Nat.le_of_not_lt h2))
                  clear h1 h2
                  clear c0 c2 c3
                  obtain ⟨c0, c1, c2, c3⟩ := HC.out w2 hb2
                  go_wp2_with fail
                  refine Calls.mono (Store_all w2 p mb fs hT.a at_ v 8 hat hv) ?_
                  rintro e w3 ⟨rfl, hM3, hk3⟩
                  obtain ⟨hT3, hB3⟩ := hT.left hb2.size hM3 hk3
                  have hb3 := hb2.trans hB3
                  clear c0 c1 c2 c3 hM3 hk3
                  obtain ⟨c0, c1, c2, c3⟩ := HC.out w3 hb3
                  go_wp2_with fail
                  refine Calls.mono (Store_all w3 p mb _ hT3.a bt u 8 hbt hu) ?_
                  rintro e w4 ⟨rfl, hM4, hk4⟩
                  obtain ⟨hT4, hB4⟩ := hT3.left hb3.size hM4 hk4
                  have hb4 := hb3.trans hB4
                  clear c0 c1 c2 c3 hM4 hk4
                  obtain ⟨c0, c1, c2, c3⟩ := HC.out w4 hb4
                  go_wp2_with fail
                  refine Calls.mono (Store_all w4 q mc gs hT4.b bt u 8 hbt hu) ?_
                  rintro e w5 ⟨rfl, hM5, hk5⟩
                  obtain ⟨hT5, hB5⟩ := hT4.right hb4.size hM5 hk5
                  have hb5 := hb4.trans hB5
                  clear c0 c1 c2 c3 hM5 hk5
                  obtain ⟨c0, c1, c2, c3⟩ := HC.out w5 hb5
                  go_wp2_with fail
                  refine Calls.mono (Store_all w5 q mc _ hT5.b at_ v 8 hat hv) ?_
                  rintro e w6 ⟨rfl, hM6, hk6⟩
                  obtain ⟨hT6, hB6⟩ := hT5.right hb5.size hM6 hk6
                  have hb6 := hb5.trans hB6
                  obtain ⟨s1, s2, s3⟩ := store_two (fs := fs) (gs := gs) HN.out.2.1 HG.out HN.out.2.2 at_ v bt u 8 HD.out
                  rw [← s1, s2]
                  have HS := Lib.hid s3
                  clear c0 c1 c2 c3 hM6 hk6 s1 s2 s3 hT3 hT4 hT5 hT
                  generalize storeE fs at_ 8 = x1
                  generalize storeE gs bt 8 = x2
                  go_wp2_with fail
                  refine Calls.mono (Same_any w6 _ _ _ _ hT6.a.memN hT6.b.memN hT6.few HS.out) ?_
                  rintro e w7 ⟨rfl, hB7⟩
                  have hb7 := hb6.trans (hB7.mono hb6.size)
                  have hfin : Below w.heap.size w w7 := hb0.trans (hb7.mono hb0.size)
                  go_wp2_with (go_at_call 19; refine (speaks2_true _).mono ?_; rintro e w9 ⟨rfl, hB9⟩)
                  go_ret
                  exact ⟨rfl, hfin.trans (hB9.mono hfin.size)⟩
              · have d1 : decide ((bt : Int) < (at_ : Int) + 8) = false := decide_eq_false (by omega)
                have HD := Lib.hid (show at_ + (8 : Int).toNat ≤ bt ∨ bt + (8 : Int).toNat ≤ at_ from .inl (Nat.le_of_not_lt h1))
                clear h1
                clear c0 c2 c3
                obtain ⟨c0, c1, c2, c3⟩ := HC.out w2 hb2
                go_wp2_with fail
                refine Calls.mono (Store_all w2 p mb fs hT.a at_ v 8 hat hv) ?_
                rintro e w3 ⟨rfl, hM3, hk3⟩
                obtain ⟨hT3, hB3⟩ := hT.left hb2.size hM3 hk3
                have hb3 := hb2.trans hB3
                clear c0 c1 c2 c3 hM3 hk3
                obtain ⟨c0, c1, c2, c3⟩ := HC.out w3 hb3
                go_wp2_with fail
                refine Calls.mono (Store_all w3 p mb _ hT3.a bt u 8 hbt hu) ?_
                rintro e w4 ⟨rfl, hM4, hk4⟩
                obtain ⟨hT4, hB4⟩ := hT3.left hb3.size hM4 hk4
                have hb4 := hb3.trans hB4
                clear c0 c1 c2 c3 hM4 hk4
                obtain ⟨c0, c1, c2, c3⟩ := HC.out w4 hb4
                go_wp2_with fail
                refine Calls.mono (Store_all w4 q mc gs hT4.b bt u 8 hbt hu) ?_
                rintro e w5 ⟨rfl, hM5, hk5⟩
                obtain ⟨hT5, hB5⟩ := hT4.right hb4.size hM5 hk5
                have hb5 := hb4.trans hB5
                clear c0 c1 c2 c3 hM5 hk5
                obtain ⟨c0, c1, c2, c3⟩ := HC.out w5 hb5
                go_wp2_with fail
                refine Calls.mono (Store_all w5 q mc _ hT5.b at_ v 8 hat hv) ?_
                rintro e w6 ⟨rfl, hM6, hk6⟩
                obtain ⟨hT6, hB6⟩ := hT5.right hb5.size hM6 hk6
                have hb6 := hb5.trans hB6
                obtain ⟨s1, s2, s3⟩ := store_two (fs := fs) (gs := gs) HN.out.2.1 HG.out HN.out.2.2 at_ v bt u 8 HD.out
                rw [← s1, s2]
                have HS := Lib.hid s3
                clear c0 c1 c2 c3 hM6 hk6 s1 s2 s3 hT3 hT4 hT5 hT
                generalize storeE fs at_ 8 = x1
                generalize storeE gs bt 8 = x2
                go_wp2_with fail
                refine Calls.mono (Same_any w6 _ _ _ _ hT6.a.memN hT6.b.memN hT6.few HS.out) ?_
                rintro e w7 ⟨rfl, hB7⟩
                have hb7 := hb6.trans (hB7.mono hb6.size)
                have hfin : Below w.heap.size w w7 := hb0.trans (hb7.mono hb0.size)
                go_wp2_with (go_at_call 19; refine (speaks2_true _).mono ?_; rintro e w9 ⟨rfl, hB9⟩)
                go_ret
                exact ⟨rfl, hfin.trans (hB9.mono hfin.size)⟩
      · have k1 : (k != 1) = true := by simp; omega
        have k2 : (k != 2) = true := by simp; omega
        have k4 : (k != 4) = true := by simp; omega
        have k8 : (k != 8) = true := by simp; omega
        clear hkk
        go_wp2_with (go_at_call 19; refine (speaks2_true _).mono ?_; rintro e w9 ⟨rfl, hB9⟩)
        go_ret
        exact ⟨rfl, hfin0.trans (hB9.mono hfin0.size)⟩
    · exact absurd HN.out.1 h0
  · obtain ⟨c0, c1, c2, c3⟩ := HC.out w1 hB
    have hd : (fromE (ps.map PgIn.pg) != 0) = true := by simpa using h0
    go_wp2_with fail
    refine (From_all _ A cap ps ((hP0.below hB).mono hB.size)).mono ?_
    intro e w2 hF
    rcases hF with ⟨h1, _⟩ | ⟨_, rfl, hB2⟩
    · exact absurd h1 h0
    · have hb2 := hB.trans (hB2.mono hB.size)
      have hfin0 : Below w.heap.size w w2 := hb0.trans (hb2.mono hb0.size)
      go_wp2_with (go_at_call 19; refine (speaks2_true _).mono ?_; rintro e w9 ⟨rfl, hB9⟩)
      go_ret
      exact ⟨rfl, hfin0.trans (hB9.mono hfin0.size)⟩
end Go.Proofs
