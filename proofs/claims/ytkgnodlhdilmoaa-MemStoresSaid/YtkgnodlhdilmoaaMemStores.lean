/- patinalaw02.MemStores: the walk. -/
import Derived.Test.YtkgnodlhdilmoaaRStore2
import Derived.Test.YtkgnodlhdilmoaaMemTwo
import Derived.Lib.VarintBits
namespace Go.Pat
open Go Go.RowKit
theorem numM_store {fs : List Fr} (hl : lens fs) (at_ v k : Nat) (hp : ∀ i, i < k → ∃ f, pageOf fs (at_ + i) = some f) : ∀ j, j ≤ k → numM (storeTo fs at_ v k) at_ j = v % 256 ^ j := by
  intro j
  induction j with
  | zero => intro _; simp [numM, Nat.mod_one]
  | succ j ih =>
    intro h
    rw [numM, ih (by omega), byteM_store hl at_ v k hp, if_pos ⟨by omega, by omega⟩, Nat.add_sub_cancel_left, Nat.pow_succ, Nat.mod_mul, Nat.mul_comm]
theorem mask8 (v : Nat) (h : v < 18446744073709551616) : bits BinOp.and IntKind.u64 (v : Int) 255 = ((v % 256 : Nat) : Int) := by
  rw [show (255 : Int) = 2 ^ 8 - 1 from rfl, bits_mask .u64 64 (by decide) wraps_u64 8 (by decide) (v : Int) (by omega) (by omega)]
  omega
theorem mask16 (v : Nat) (h : v < 18446744073709551616) : bits BinOp.and IntKind.u64 (v : Int) 65535 = ((v % 65536 : Nat) : Int) := by
  rw [show (65535 : Int) = 2 ^ 16 - 1 from rfl, bits_mask .u64 64 (by decide) wraps_u64 16 (by decide) (v : Int) (by omega) (by omega)]
  omega
theorem mask32 (v : Nat) (h : v < 18446744073709551616) : bits BinOp.and IntKind.u64 (v : Int) 4294967295 = ((v % 4294967296 : Nat) : Int) := by
  rw [show (4294967295 : Int) = 2 ^ 32 - 1 from rfl, bits_mask .u64 64 (by decide) wraps_u64 32 (by decide) (v : Int) (by omega) (by omega)]
  omega
theorem ok_storeM {fs : List Fr} (h : PsOK (fs.map Fr.pg)) (at_ v : Nat) (n : Int) : PsOK ((storeM fs at_ v n).map Fr.pg) := by
  unfold storeM
  split
  · rw [← wrF_le fs at_ v n.toNat n.toNat (Nat.le_refl _)]
    exact ok_wrF h _ _ _
  · exact h
/-- the number that was stored is read. -/
theorem load_store {fs : List Fr} (hl : lens fs) (at_ v : Nat) (k : Int) (h0 : storeE fs at_ k = 0) (hy : (loadM (storeM fs at_ v k) at_ k).2 = 0) : (loadM (storeM fs at_ v k) at_ k).1 = v % 256 ^ k.toNat := by
  have hw : wide k = true := by
    cases hw : wide k with
    | true => rfl
    | false => simp [storeE, hw] at h0
  have h1 : askedM fs at_ k.toNat 2 = 0 := by simpa [storeE, hw] using h0
  obtain ⟨-, -, hp⟩ := Go.Proofs.asked_zero h1
  rw [storeM, if_pos h0] at hy ⊢
  unfold loadM at hy ⊢
  rw [hw] at hy ⊢
  simp only [if_true] at hy ⊢
  split at hy
  · rename_i h2
    rw [if_pos h2]
    exact numM_store hl at_ v k.toNat (fun i hi => (hp i hi).imp fun _ h => h.1) k.toNat (Nat.le_refl _)
  · rename_i h2
    exact absurd hy h2
end Go.Pat
namespace Go.Proofs
open Go Go.RowKit Go.Pat

set_option maxRecDepth 20000 in
set_option maxHeartbeats 8000000 in
theorem MemStores_any (w : World) (A : Option Addr) (cap at_ v : Nat) (k : Int) (ps : List PgIn) (hP : PgsAt w.heap.size w A ps) (hat : at_ < 18446744073709551616) (hv : v < 18446744073709551616) :
    Calls Try.prog 16 #[.agg #[.slice A ps.length cap, .int .u64 at_, .int .i64 k, .int .u64 v]] w fun e w' => e = .returned (.bool true) ∧ Below w.heap.size w w' := by
  obtain ⟨W0, hW0⟩ : ∃ W0, W0 = w.alloc (.cells #[.slice A ps.length cap, .int .u64 at_, .int .i64 k, .int .u64 v] 25) := ⟨_, rfl⟩
  have hb0 : Below w.heap.size w W0 := by rw [hW0]; exact (Below.refl _ _).alloc (Nat.le_refl _) _
  have hP0 : PgsAt W0.heap.size W0 A ps := PgsAt.mono (hP.below hb0) hb0.size
  have hcc : ∀ w1, Below W0.heap.size W0 w1 → w1.cell? ⟨w.heap.size, 0, none⟩ = some (.slice A ps.length cap) ∧ w1.cell? ⟨w.heap.size, 1, none⟩ = some (.int .u64 at_) ∧ w1.cell? ⟨w.heap.size, 2, none⟩ = some (.int .i64 k) ∧ w1.cell? ⟨w.heap.size, 3, none⟩ = some (.int .u64 v) := by
    rw [hW0]; exact fun w1 h => case_cells _ _ _ _ _ _ h
  obtain ⟨c0, c1, c2, c3⟩ := hcc W0 (Below.refl _ _)
  have HC := Lib.hid hcc
  have HW := Lib.hid hW0
  clear hcc hW0
  go_enter Try.func16, Try.ntmps16
  go_upto_region 1 with fail
  rw [← HW.out]
  go_wp2_with fail
  refine (From_all _ A cap ps hP0).mono ?_
  intro e w1 hF
  clear c0 c1 c2 c3
  rcases hF with ⟨h0, p, mb, fs, rfl, hfs, hM, hp, hmb, hge, hB⟩ | ⟨h0, rfl, hB⟩
  · have hok := psOK_of h0
    have hpl : fs.length ≤ 90000 := by
      have h1 : ¬ 4096 < (ps.map PgIn.pg).length := fun h => by unfold fromE at h0; rw [if_pos h] at h0; cases h0
      have h2 := congrArg List.length hfs
      simp at h1 h2
      omega
    have hpp : ps.length ≤ 90000 := by have h2 := congrArg List.length hfs; simp at h2; omega
    have HN := Lib.hid (And.intro h0 (And.intro hfs (And.intro hok hpp)))
    clear h0 hfs hok
    obtain ⟨c0, c1, c2, c3⟩ := HC.out w1 hB
    go_wp2_with fail
    refine Calls.mono (Clone_any (some ⟨p, 0, none⟩) fs hpl w1 hM.memN) ?_
    rintro e w2 ⟨q, mc, gs, rfl, hG, hq, hmc, hge2, hgs, hB2⟩
    have hb2 := hB.trans (hB2.mono hB.size)
    clear c0 c1 c2 c3
    obtain ⟨c0, c1, c2, c3⟩ := HC.out w2 hb2
    have hT : Two W0.heap.size w1.heap.size w2 p mb fs q mc gs := ⟨hM.below hM.lt hB2, hG, ⟨hM.lt.1, hM.lt.2.1, fun x hx => by obtain ⟨f, hf, rfl⟩ := List.mem_map.1 hx; exact ⟨hge f hf, hM.lt.2.2 f hf⟩⟩, ⟨hq, hmc, fun x hx => by obtain ⟨f, hf, rfl⟩ := List.mem_map.1 hx; exact hge2 f hf⟩, hB.size, hpl⟩
    have hgok : (sortF gs).map Fr.pg = ps.map PgIn.pg := sortF_ok (hgs.trans (sortF_ok HN.out.2.1 HN.out.2.2.1)) HN.out.2.2.1
    have hgl : gs.length ≤ 90000 := by have h2 := congrArg List.length hgs; simp [sortF_length] at h2; omega
    have hlens := hM.lens
    have HG := Lib.hid (And.intro hgok (And.intro hgl hlens))
    clear hgs hM hG hge hge2 hpl hp hmb hq hmc hB hB2 hgok hgl hpp hlens
    go_wp2_with fail
    refine Calls.mono (Store_all w2 p mb fs hT.a at_ v k hat hv) ?_
    rintro e w3 ⟨rfl, hM3, hk3⟩
    obtain ⟨hT3, hB3⟩ := hT.left hb2.size hM3 hk3
    have hb3 := hb2.trans hB3
    clear c0 c1 c2 c3 hM3 hk3
    obtain ⟨c0, c1, c2, c3⟩ := HC.out w3 hb3
    go_wp2_with fail
    refine Calls.mono (rStore2_any w3 A cap ps.length at_ v k ps fs ((hP0.below hb3).mono hb3.size) rfl HN.out.2.2.2 HN.out.2.1 HN.out.2.2.1 hat hv) ?_
    rintro e w4 ⟨A', c', qs, rfl, hP4, hl4, hq4, hB4⟩
    have hb4 := hb3.trans (hB4.mono hb3.size)
    have hT4 := hT3.below hB4
    have hsr : (sortF (storeM fs at_ v k)).map Fr.pg = qs.map PgIn.pg := by
      rw [hq4, sortF_of ((rises_sh (sh_storeM fs at_ v k) (fs_rises HN.out.2.1 HN.out.2.2.1)).imp Nat.le_of_lt)]
    have HS := Lib.hid (And.intro hsr hq4)
    clear c0 c1 c2 c3 hsr hq4 hT3 hT
    obtain ⟨c0, c1, c2, c3⟩ := HC.out w4 hb4
    have he : (storeE fs at_ k != storeE fs at_ k) = false := by simp
    go_wp2_with fail
    refine Calls.mono (same2_any w4 _ (storeM fs at_ v k) A' ps.length c' qs hT4.a.memN hP4 hl4 hT4.few HS.out.1) ?_
    rintro e w5 ⟨rfl, hB5⟩
    have hb5 := hb4.trans (hB5.mono hb4.size)
    have hT5 := hT4.below hB5
    clear c0 c1 c2 c3
    obtain ⟨c0, c1, c2, c3⟩ := HC.out w5 hb5
    go_wp2_with fail
    refine Calls.mono (same2_any w5 _ gs A ps.length cap ps hT5.b.memN ((hP0.below hb5).mono hb5.size) rfl HG.out.2.1 HG.out.1) ?_
    rintro e w6 ⟨rfl, hB6⟩
    have hb6 := hb5.trans (hB6.mono hb5.size)
    have hT6 := hT5.below hB6
    clear c0 c1 c2 c3 hT4 hT5
    obtain ⟨c0, c1, c2, c3⟩ := HC.out w6 hb6
    have hfin6 : Below w.heap.size w w6 := hb0.trans (hb6.mono hb0.size)
    by_cases hE : storeE fs at_ k = 0
    · have he0 : (storeE fs at_ k != 0) = false := by rw [hE]; rfl
      have hw : wide k = true := by
        cases hw : wide k with
        | true => rfl
        | false => simp [storeE, hw] at hE
      have hk : k = 1 ∨ k = 2 ∨ k = 4 ∨ k = 8 := by simp [wide] at hw; omega
      have hqok : PsOK (qs.map PgIn.pg) := by rw [HS.out.2]; exact ok_storeM (by rw [HN.out.2.1]; exact HN.out.2.2.1) at_ v k
      have HE := Lib.hid hE
      have HQ := Lib.hid hqok
      clear hE hw hqok
      go_wp2_with fail
      refine Calls.mono (Load_any w6 p mb _ hT6.a at_ k hat) ?_
      rintro e w7 ⟨rfl, hB7⟩
      have hb7 := hb6.trans (hB7.mono hb6.size)
      have hb47 : Below w4.heap.size w4 w7 := (hB5.trans (hB6.mono hB5.size)).trans (hB7.mono (Nat.le_trans hB5.size hB6.size))
      clear c0 c1 c2 c3
      obtain ⟨c0, c1, c2, c3⟩ := HC.out w7 hb7
      have hfin7 : Below w.heap.size w w7 := hb0.trans (hb7.mono hb0.size)
      rcases hk with rfl | rfl | rfl | rfl
      · have hmk := mask8 v hv
        go_wp2_with fail
        refine Calls.mono (rLoad2_any w7 A' c' ps.length at_ 1 qs _ ((hP4.below hb47).mono hb47.size) hl4 HS.out.2.symm HQ.out hat) ?_
        rintro e w8 ⟨rfl, hB8⟩
        have HL : (loadM (storeM fs at_ v 1) at_ 1).2 = 0 → (loadM (storeM fs at_ v 1) at_ 1).1 = v % 256 := fun h => load_store HG.out.2.2 at_ v 1 HE.out h
        generalize loadM (storeM fs at_ v 1) at_ 1 = r at *
        obtain ⟨v8, e8⟩ := r
        simp only at HL
        have hfin8 : Below w.heap.size w w8 := hfin7.trans (hB8.mono hfin7.size)
        by_cases h8 : e8 = 0
        · subst h8
          obtain rfl := HL rfl
          skip
          go_wp2_with (go_at_call 19; refine (speaks2_true _).mono ?_; rintro e w9 ⟨rfl, hB9⟩)
          go_ret
          exact ⟨rfl, hfin8.trans (hB9.mono hfin8.size)⟩
        · have h8' : (e8 != 0) = true := by simpa using h8
          clear HL h8
          go_wp2_with (go_at_call 19; refine (speaks2_true _).mono ?_; rintro e w9 ⟨rfl, hB9⟩)
          go_ret
          exact ⟨rfl, hfin8.trans (hB9.mono hfin8.size)⟩
      · have hmk := mask16 v hv
        go_wp2_with fail
        refine Calls.mono (rLoad2_any w7 A' c' ps.length at_ 2 qs _ ((hP4.below hb47).mono hb47.size) hl4 HS.out.2.symm HQ.out hat) ?_
        rintro e w8 ⟨rfl, hB8⟩
        have HL : (loadM (storeM fs at_ v 2) at_ 2).2 = 0 → (loadM (storeM fs at_ v 2) at_ 2).1 = v % 65536 := fun h => load_store HG.out.2.2 at_ v 2 HE.out h
        generalize loadM (storeM fs at_ v 2) at_ 2 = r at *
        obtain ⟨v8, e8⟩ := r
        simp only at HL
        have hfin8 : Below w.heap.size w w8 := hfin7.trans (hB8.mono hfin7.size)
        by_cases h8 : e8 = 0
        · subst h8
          obtain rfl := HL rfl
          skip
          go_wp2_with (go_at_call 19; refine (speaks2_true _).mono ?_; rintro e w9 ⟨rfl, hB9⟩)
          go_ret
          exact ⟨rfl, hfin8.trans (hB9.mono hfin8.size)⟩
        · have h8' : (e8 != 0) = true := by simpa using h8
          clear HL h8
          go_wp2_with (go_at_call 19; refine (speaks2_true _).mono ?_; rintro e w9 ⟨rfl, hB9⟩)
          go_ret
          exact ⟨rfl, hfin8.trans (hB9.mono hfin8.size)⟩
      · have hmk := mask32 v hv
        go_wp2_with fail
        refine Calls.mono (rLoad2_any w7 A' c' ps.length at_ 4 qs _ ((hP4.below hb47).mono hb47.size) hl4 HS.out.2.symm HQ.out hat) ?_
        rintro e w8 ⟨rfl, hB8⟩
        have HL : (loadM (storeM fs at_ v 4) at_ 4).2 = 0 → (loadM (storeM fs at_ v 4) at_ 4).1 = v % 4294967296 := fun h => load_store HG.out.2.2 at_ v 4 HE.out h
        generalize loadM (storeM fs at_ v 4) at_ 4 = r at *
        obtain ⟨v8, e8⟩ := r
        simp only at HL
        have hfin8 : Below w.heap.size w w8 := hfin7.trans (hB8.mono hfin7.size)
        by_cases h8 : e8 = 0
        · subst h8
          obtain rfl := HL rfl
          skip
          go_wp2_with (go_at_call 19; refine (speaks2_true _).mono ?_; rintro e w9 ⟨rfl, hB9⟩)
          go_ret
          exact ⟨rfl, hfin8.trans (hB9.mono hfin8.size)⟩
        · have h8' : (e8 != 0) = true := by simpa using h8
          clear HL h8
          go_wp2_with (go_at_call 19; refine (speaks2_true _).mono ?_; rintro e w9 ⟨rfl, hB9⟩)
          go_ret
          exact ⟨rfl, hfin8.trans (hB9.mono hfin8.size)⟩
      · skip
        go_wp2_with fail
        refine Calls.mono (rLoad2_any w7 A' c' ps.length at_ 8 qs _ ((hP4.below hb47).mono hb47.size) hl4 HS.out.2.symm HQ.out hat) ?_
        rintro e w8 ⟨rfl, hB8⟩
        have HL : (loadM (storeM fs at_ v 8) at_ 8).2 = 0 → (loadM (storeM fs at_ v 8) at_ 8).1 = v % 18446744073709551616 := fun h => load_store HG.out.2.2 at_ v 8 HE.out h
        generalize loadM (storeM fs at_ v 8) at_ 8 = r at *
        obtain ⟨v8, e8⟩ := r
        simp only at HL
        have hfin8 : Below w.heap.size w w8 := hfin7.trans (hB8.mono hfin7.size)
        by_cases h8 : e8 = 0
        · subst h8
          obtain rfl := HL rfl
          have hvv : v % 18446744073709551616 = v := Nat.mod_eq_of_lt hv
          go_wp2_with (go_at_call 19; refine (speaks2_true _).mono ?_; rintro e w9 ⟨rfl, hB9⟩)
          go_ret
          exact ⟨rfl, hfin8.trans (hB9.mono hfin8.size)⟩
        · have h8' : (e8 != 0) = true := by simpa using h8
          clear HL h8
          go_wp2_with (go_at_call 19; refine (speaks2_true _).mono ?_; rintro e w9 ⟨rfl, hB9⟩)
          go_ret
          exact ⟨rfl, hfin8.trans (hB9.mono hfin8.size)⟩
    · have he0 : (storeE fs at_ k != 0) = true := by simpa using hE
      have hS0 : storeM fs at_ v k = fs := by rw [storeM, if_neg hE]
      have HE := Lib.hid hE
      have hsame : (sortF (storeM fs at_ v k)).map Fr.pg = (sortF gs).map Fr.pg := by rw [HG.out.1, hS0]; exact sortF_ok HN.out.2.1 HN.out.2.2.1
      have HH := Lib.hid hsame
      clear hE hS0 hsame
      go_wp2_with fail
      refine Calls.mono (Same_any w6 _ _ _ _ hT6.a.memN hT6.b.memN hT6.few HH.out) ?_
      rintro e w7 ⟨rfl, hB7⟩
      have hfin7 : Below w.heap.size w w7 := hfin6.trans (hB7.mono hfin6.size)
      go_wp2_with (go_at_call 19; refine (speaks2_true _).mono ?_; rintro e w9 ⟨rfl, hB9⟩)
      go_ret
      exact ⟨rfl, hfin7.trans (hB9.mono hfin7.size)⟩
  · have hd : (fromE (ps.map PgIn.pg) != 0) = true := by simpa using h0
    go_wp2_with (go_at_call 19; refine (speaks2_true _).mono ?_; rintro e w2 ⟨rfl, hB2⟩)
    go_ret
    exact ⟨rfl, (hb0.trans (hB.mono hb0.size)).trans (hB2.mono (Nat.le_trans hb0.size hB.size))⟩
end Go.Proofs
