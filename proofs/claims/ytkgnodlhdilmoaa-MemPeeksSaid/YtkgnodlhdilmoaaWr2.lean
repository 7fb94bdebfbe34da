/- patinaref04.Write makes the file that elf.Write makes. -/
import Derived.Test.YtkgnodlhdilmoaaWr
namespace Go.Proofs
open Go Go.RowKit Go.Pat

set_option maxRecDepth 20000 in
set_option maxHeartbeats 8000000 in
theorem rWrite4_any (w : World) (A : Option Addr) (cap en : Nat) (ss : List Sg) (hP : SgsAt w.heap.size w A ss) (hen : en < 18446744073709551616) :
    Calls Try.prog 28 #[.agg #[.int .u64 en, .slice A ss.length cap]] w (WroteP w en (ss.map Sg.d)) := by
  have hb0 : Below w.heap.size w (w.alloc (.cells #[.int .u64 en, .slice A ss.length cap] 38)) := (Below.refl _ _).alloc (Nat.le_refl _) _
  go_enter Try.func28, Try.ntmps28
  go_wp2_with fail
  refine Calls.mono (rCheck4_any _ A cap en ss ((hP.below hb0).mono hb0.size) hen) ?_
  rintro e w1 ⟨rfl, hB1⟩
  have hB : Below w.heap.size w w1 := hb0.trans (hB1.mono hb0.size)
  rw [World.size_alloc] at hB1
  obtain ⟨c0, c1⟩ := two_cells1 _ _ _ _ hB1
  by_cases hc : checkE en (ss.map Sg.d) = 0
  · have hd : (checkE en (ss.map Sg.d) != 0) = false := by rw [hc]; rfl
    have hK := check_ok hc
    have h8 := hK.few
    rw [List.length_map] at h8
    have hsm : ∀ s ∈ ss, s.data.length ≤ 16777216 ∧ 0 ≤ s.perm ∧ s.perm ≤ 7 := fun s hs => hK.seg s.d (List.mem_map.2 ⟨s, hs, rfl⟩)
    have hl : Go.Pat.dlens (ss.map Sg.d) = ss.map fun s => s.data.length := dlens_d ss
    have hll : (ss.map fun s => s.data.length).length = ss.length := List.length_map ..
    obtain ⟨n, hN⟩ : ∃ n, n = endT (ss.map fun s => s.data.length) ss.length := ⟨_, rfl⟩
    have hn1 : n ≤ 134250496 + 512 := by
      have h1 := endT_leM (ls := ss.map fun s => s.data.length) 16781312 (by decide) (by intro m hm; obtain ⟨s, hs, rfl⟩ := List.mem_map.1 hm; have := (hsm s hs).1; omega) (by omega) ss.length
      have h2 : ss.length * 16781312 ≤ 8 * 16781312 := Nat.mul_le_mul_right _ h8
      rw [hN]; omega
    have hn64 : 64 + 56 * ss.length ≤ n := by rw [hN]; have := endT_head (ss.map fun s => s.data.length) ss.length; rw [hll] at this; exact this
    have HN := Lib.hid hN
    have HC := Lib.hid hc
    clear hN hc hK
    go_wp2_with fail
    refine Calls.mono (rcounts4_any _ A cap en ss ((hP.below hB).mono hB.size) h8) ?_
    rintro e w2 ⟨v, rfl, hv, hB2⟩
    obtain ⟨A1, k1, rfl, hv2⟩ := hv.form
    clear hv
    rw [List.length_map] at *
    have hbB := hB.trans (hB2.mono hB.size)
    have hB12 := hB1.trans (hB2.mono (by have := hB1.size; rw [World.size_alloc] at this; exact this))
    go_wp2_with fail
    refine Calls.mono (rplaces4_any _ A1 k1 ss.length _ (ss.map fun s => s.data.length) (List.length_map ..) hv2 (Nat.le_refl _) h8 (by intro m hm; obtain ⟨s, hs, rfl⟩ := List.mem_map.1 hm; exact (hP.small s hs).2.2)) ?_
    rintro e w3 ⟨v3, rfl, hv3, hB3⟩
    obtain ⟨A2, k2, rfl, hv4⟩ := hv3.form
    clear hv3 hv2
    rw [plaT_length] at *
    rw [← HN.out]
    have hpre0 := hB12.trans (hB3.mono (by have := hB12.size; rw [World.size_alloc] at this; exact this))
    go_wp2_with (at_make; refine wpList_makeB _ rfl _ _ rfl .u64 n rfl rfl (by omega) ?hm)
    case hm =>
      intro w4 hb4 hB4 hs4
      obtain ⟨g, hg⟩ : ∃ g, g = w3.heap.size := ⟨_, rfl⟩
      have hg2 : w.heap.size + 1 ≤ g := by have := hpre0.size; rw [World.size_alloc] at this; omega
      rw [← hg] at hb4 hB4 hs4 hv4 ⊢
      clear hg
      have hpre := hpre0.trans (hB4.mono hg2)
      clear hpre0 hB12 hB1 c0 c1 hbB hB2 hB3
      obtain ⟨c0, c1⟩ := two_cells1 _ _ _ _ hpre
      go_wp2_with fail
      refine Calls.mono (rhead4_any _ en ss.length hen h8) ?_
      rintro e w5 ⟨A3, k3, rfl, hv5, hB5⟩
      have hb5 := hb4.below hB5
      have hs5 : g + 1 ≤ w5.heap.size := by have := hB5.size; omega
      go_wp2_with (with_reducible refine wpList_copyB (o := ⟨some 26, _, _, _, _, _⟩) _ ?q1 (.tmp 19) (.tmp 25) ?q2 g 0 n n ?q3 (List.replicate n 0) ?q4 A3 64 k3 w5.heap.size ?q5 (headB en ss.length) ?q6 ?q7 ?q8 ?q9 ?hk)
      case q1 => rfl
      case q2 => rfl
      case q3 => rfl
      case q4 => exact hb5
      case q5 => rfl
      case q6 => exact hv5
      case q7 => exact headB_length _ _
      case q8 => omega
      case q9 => first | omega | (rw [List.length_replicate]; omega)
      intro w6 hq0 hk0
      have hf0 : fileT en (ss.map Sg.d) 0 = splice (List.replicate n 0) 0 (headB en ss.length) := by rw [fileT, hl, List.length_map, HN.out]
      rw [← hf0] at hq0
      have hG : Below g w4 w6 := (hB5.mono (by omega)).trans (hk0.below (by omega) (by rintro b rfl; exact Nat.le_refl _))
      clear hk0 hb5 hv5 hB5 c0 c1 hf0
      go_wp2
      go_loopw [7] (fun i wr => ∃ j : Nat, j ≤ ss.length ∧ i = .int .i64 j ∧ Buf wr g (fileT en (ss.map Sg.d) j) ∧ Below g w4 wr) (fun i _ => ss.length - (intOf i).toNat)
      case atStart => exact ⟨0, by omega, rfl, hq0, hG⟩
      case round =>
        clear hq0 hG
        obtain ⟨j, hj, rfl, hbj, hBr⟩ := hrel
        have hbs : g + 1 ≤ wr.heap.size := by have := hBr.size; omega
        have hpr := hpre.trans (hBr.mono hg2)
        obtain ⟨c0, c1⟩ := two_cells1 _ _ _ _ hpr
        have hPj := hP.below (hb0.trans (hpr.mono (Nat.le_succ _)))
        have hlj : (fileT en (ss.map Sg.d) j).length = n := by rw [fileT_length, hl, List.length_map, HN.out]
        by_cases hlt : j < ss.length
        · have hd3 : decide ((j : Int) < (ss.length : Int)) = true := by simp; omega
          obtain ⟨b, o, rfl, hbw, q0, q1, q2, q3⟩ := hPj.cells j hlt
          have hsmj := hPj.small ss[j] (List.getElem_mem hlt)
          have hperm := hsm ss[j] (List.getElem_mem hlt)
          have hby := hPj.bytes ss[j] (List.getElem_mem hlt)
          have hget : (ss.map Sg.d)[j]? = some (ss[j].d) := by simp [hlt]
          have hgl : (ss.map fun s => s.data.length)[j]? = some ss[j].data.length := by simp [hlt]
          have hfit := plAt_fits (ss.map fun s => s.data.length) j hgl hlt
          rw [← HN.out] at hfit
          have hple : (plaT (ss.map fun s => s.data.length) ss.length)[j]'(by rw [plaT_length]; exact hlt) = plAt (ss.map fun s => s.data.length) j := by
            have := plaT_get (ss.map fun s => s.data.length) ss.length j hlt
            rw [List.getElem?_eq_getElem (by rw [plaT_length]; exact hlt)] at this
            exact Option.some.inj this
          obtain ⟨b2, o2, rfl, hb2w, hpc⟩ := Cs.at_i (hv4.below (hB4.trans hBr)) j (by rw [plaT_length]; exact hlt)
          rw [hple] at hpc
          obtain ⟨pl, hpl⟩ : ∃ pl, pl = plAt (ss.map fun s => s.data.length) j := ⟨_, rfl⟩
          rw [← hpl] at hpc hfit
          have hst : fileT en (ss.map Sg.d) (j + 1) = splice (splice (fileT en (ss.map Sg.d) j) (64 + 56 * j) (rowB ss[j].addr ss[j].perm.toNat ss[j].data.length ss[j].size pl)) pl ss[j].data := by rw [fileT, hget, hl, hpl]; rfl
          have hz0 : ss[j].data.length = 0 → pl = 0 := fun hz => by rw [hz] at hgl; have := plAt_zero _ _ hgl; omega
          have hz1 : ss[j].data.length ≠ 0 → 64 ≤ pl := fun hz => by have := plAt_head _ _ hgl hz; omega
          have hpy : ss[j].perm = ((ss[j].perm.toNat : Nat) : Int) := (Int.toNat_of_nonneg hperm.2.1).symm
          have hp7 : ss[j].perm.toNat ≤ 7 := by omega
          have HX := Lib.hid (And.intro hst (And.intro hpy (And.intro hp7 (And.intro hz0 hz1))))
          have hne0 : ¬ n = 64 + 56 * j := by omega
          clear hst hz0 hz1 hpy hp7 hpl hple hgl hget
          have hm0 : (64 : Int) + 56 * (j : Int) ≤ (n : Int) := by omega
          have hjl : (j : Int) < (ss.length : Int) := by omega
          have hplb : pl < 18446744073709551616 := by omega
          have hq : Buf wr.drew g (fileT en (ss.map Sg.d) j) := hbj
          have hrl := rowB_length ss[j].addr ss[j].perm.toNat ss[j].data.length ss[j].size pl
          have hbl1 : w.heap.size < wr.drew.heap.size := Nat.lt_of_lt_of_le hg2 (Nat.le_of_succ_le hbs)
          have hbl2 : b < wr.drew.heap.size := Nat.lt_trans hbw hbl1
          have hbl3 : b2 < wr.drew.heap.size := Nat.lt_trans hb2w hbs
          have hg1 : w.heap.size ≠ g := by omega
          have hg3 : b ≠ g := by omega
          have hg4 : b2 ≠ g := by omega
          go_wp2_with fail
          have hq56 : 64 + 56 * j + 56 ≤ n := by omega
          have hq57 : 56 ≤ n - (64 + 56 * j) := by omega
          have hn64' : 64 ≤ n := by omega
          have u1 : (0 : Int) ≤ 64 + 56 * (j : Int) := by omega
          have u2 : IntKind.i64.wrap (56 * (j : Int)) = 56 * (j : Int) := by rw [IntKind.wrap_i64]; omega
          have u3 : IntKind.i64.wrap (64 + 56 * (j : Int)) = 64 + 56 * (j : Int) := by rw [IntKind.wrap_i64]; omega
          have u4 : (64 + 56 * (j : Int)).toNat = 64 + 56 * j := by omega
          have u5 : (0 : Int) ≤ (j : Int) := by omega
          clear hb4 hv4 hB4 hP hb0 hPj hbj hn64 hd3 hsm
          go_region_held3 (fun w' => w'.cell? ⟨w.heap.size, 1, none⟩ = some (.slice (some ⟨b, o, none⟩) ss.length cap) ∧ w'.cell? ⟨b, o + j * 4, none⟩ = some (.int .u64 (ss[j].addr : Int)) ∧ w'.cell? ⟨b, o + j * 4 + 1, none⟩ = some (.int .i64 ss[j].perm) ∧
              w'.cell? ⟨b, o + j * 4 + 2, none⟩ = some (.slice ss[j].A ss[j].data.length ss[j].cap) ∧ w'.cell? ⟨b, o + j * 4 + 3, none⟩ = some (.int .u64 (ss[j].size : Int)) ∧ w'.cell? ⟨b2, o2 + j, none⟩ = some (.int .u64 (pl : Int)))
            (first | exact ⟨c1, q0, q1, q2, q3, hpc⟩ | exact ⟨k1, k2, k3, k4, k5, k6⟩ | exact ⟨l1, l2, l3, l4, l5, l6⟩)
            (first
              | (go_at_call 71
                 refine Calls.mono (rrow4_int wr.drew ss[j].addr ss[j].perm.toNat ss[j].size pl ss[j].data.length ss[j].cap ss[j].perm HX.out.2.1 ss[j].A hsmj.1 HX.out.2.2.1 hsmj.2.1 hplb hsmj.2.2) ?_
                 rintro e x ⟨A4, r4, rfl, hv5, hB5⟩
                 have k1 := (hB5.cell (p := ⟨w.heap.size, 1, none⟩) hbl1).trans c1
                 have k2 := (hB5.cell (p := ⟨b, o + j * 4, none⟩) hbl2).trans q0
                 have k3 := (hB5.cell (p := ⟨b, o + j * 4 + 1, none⟩) hbl2).trans q1
                 have k4 := (hB5.cell (p := ⟨b, o + j * 4 + 2, none⟩) hbl2).trans q2
                 have k5 := (hB5.cell (p := ⟨b, o + j * 4 + 3, none⟩) hbl2).trans q3
                 have k6 := (hB5.cell (p := ⟨b2, o2 + j, none⟩) hbl3).trans hpc
                 have hqx := hq.below hB5)
              | (refine step_copyB rfl (.tmp 38) (.tmp 48) rfl g (64 + 56 * j) (n - (64 + 56 * j)) (n - (64 + 56 * j)) rfl _ hqx A4 56 r4 x.heap.size rfl _ hv5 hrl hq57 (by rw [hlj]; exact hq56) ?_
                 intro w9 hq9 hk9
                 have l1 := (hk9.cell (p := ⟨w.heap.size, 1, none⟩) (Nat.lt_of_lt_of_le hbl1 hB5.size) hg1).trans k1
                 have l2 := (hk9.cell (p := ⟨b, o + j * 4, none⟩) (Nat.lt_of_lt_of_le hbl2 hB5.size) hg3).trans k2
                 have l3 := (hk9.cell (p := ⟨b, o + j * 4 + 1, none⟩) (Nat.lt_of_lt_of_le hbl2 hB5.size) hg3).trans k3
                 have l4 := (hk9.cell (p := ⟨b, o + j * 4 + 2, none⟩) (Nat.lt_of_lt_of_le hbl2 hB5.size) hg3).trans k4
                 have l5 := (hk9.cell (p := ⟨b, o + j * 4 + 3, none⟩) (Nat.lt_of_lt_of_le hbl2 hB5.size) hg3).trans k5
                 have l6 := (hk9.cell (p := ⟨b2, o2 + j, none⟩) (Nat.lt_of_lt_of_le hbl3 hB5.size) hg4).trans k6))
          have hG9 : Below g w4 w9 := (hBr.drew).trans ((hB5.mono (show g ≤ wr.drew.heap.size from Nat.le_of_succ_le hbs)).trans (hk9.below (Nat.le_trans (Nat.le_of_succ_le hbs) hB5.size) (by rintro b rfl; exact Nat.le_refl _)))
          have hsz9 : g < w9.heap.size := hq9.lt
          have hby9 : Bs w.heap.size w9 ss[j].A ss[j].data := (hby.below (B := w.heap.size) (((Below.refl _ _).drew).trans ((hB5.mono (Nat.le_of_lt hbl1)).trans (hk9.below (Nat.le_trans (Nat.le_of_lt hbl1) hB5.size) (by rintro b rfl; omega)))))
          clear k1 k2 k3 k4 k5 k6 c0 c1 q0 q1 q2 q3 hpc hq hqx hv5 hby hk9 hB5 u2 u3 u4 hm0 hne0
          by_cases hz : ss[j].data.length = 0
          · have hp0 := HX.out.2.2.2.1 hz
            have hd4 : decide (0 < pl) = false := by rw [hp0]; rfl
            have hnl : ss[j].data = [] := List.eq_nil_of_length_eq_zero hz
            have HZ := Lib.hid hnl
            clear hz hp0 hnl
            go_wp2
            go_roundw
            case rel =>
              refine ⟨j + 1, by omega, by go_num, ?_, hG9⟩
              have hq10 := hq9
              rw [HX.out.1]
              rw [show splice (splice (fileT en (ss.map Sg.d) j) (64 + 56 * j) (rowB ss[j].addr ss[j].perm.toNat ss[j].data.length ss[j].size pl)) pl ss[j].data = splice (fileT en (ss.map Sg.d) j) (64 + 56 * j) (rowB ss[j].addr ss[j].perm.toNat ss[j].data.length ss[j].size pl) by rw [HZ.out, splice_nil]]
              exact hq10
            case measure => simp [intOf]; omega
          · have hp0 := HX.out.2.2.2.2 hz
            have hd4 : decide (0 < pl) = true := decide_eq_true (by omega)
            have hi2 : (pl : Int) ≤ (n : Int) := by omega
            have hne : ¬ n = pl := by omega
            have hfl : pl + ss[j].data.length ≤ (splice (fileT en (ss.map Sg.d) j) (64 + 56 * j) (rowB ss[j].addr ss[j].perm.toNat ss[j].data.length ss[j].size pl)).length := by rw [length_splice _ _ _ (by rw [hrl, hlj]; exact hq56), hlj]; exact hfit
            have hfl2 : ss[j].data.length ≤ n - pl := by omega
            have HL := Lib.hid (And.intro hfl hfl2)
            clear hz hfl hfl2
            go_wp2_with fail
            go_region_law (refine step_copyB rfl (.tmp 60) (.tmp 66) rfl g pl (n - pl) (n - pl) rfl _ hq9 ss[j].A ss[j].data.length ss[j].cap w.heap.size rfl ss[j].data hby9 rfl HL.out.2 HL.out.1 ?_; intro w10 hq10 hk10)
            all_goals
              clear hi2 hne hby9 hfit
              go_wp2
              go_roundw
              case rel =>
                refine ⟨j + 1, by omega, by go_num, ?_, ?_⟩
                · rw [HX.out.1]; exact hq10
                · exact (hG9.drew).trans (hk10.below (Nat.le_of_lt hsz9) (by rintro b rfl; exact Nat.le_refl _))
              case measure => simp [intOf]; omega
        · have hd3 : decide ((j : Int) < (ss.length : Int)) = false := by simp; omega
          obtain rfl : j = ss.length := by omega
          go_wp2
          go_ret2
          refine .inl ⟨HC.out, g, n, rfl, ?_, by omega, ?_, by omega, ?_⟩
          · unfold fileB; rw [List.length_map]; exact hbj
          · unfold fileB; rw [List.length_map]; exact hlj.symm
          · exact hb0.trans (hpr.mono (Nat.le_succ _))
  · have hd : (checkE en (ss.map Sg.d) != 0) = true := by simpa using hc
    have h40 := check_no hc
    have HC := Lib.hid h40
    clear hc h40
    go_wp2
    go_ret2
    exact .inr ⟨HC.out, rfl, hB⟩
end Go.Proofs
