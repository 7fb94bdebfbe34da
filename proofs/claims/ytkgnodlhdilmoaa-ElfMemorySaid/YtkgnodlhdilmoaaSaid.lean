/- patinaref04.said: the same as elf.says. -/
import Derived.Test.YtkgnodlhdilmoaaStep
import Derived.Test.YtkgnodlhdilmoaaFileP
namespace Go.Pat
open Go Go.RowKit
theorem says_big {l : List UInt8} {n k : Nat} (h : 64 + 56 * n ≤ l.length) (hk : k < n) (hc : l.length < cntK l k) : saysT l n n = .none := by
  rw [saysT_is l n h n (Nat.le_refl _), if_neg]
  have := plAt_fits (cnts l n) k (cnts_get l n k hk) hk
  omega
theorem says_end {l : List UInt8} {n : Nat} (h : 64 + 56 * n ≤ l.length) (he : l.length < endT (cnts l n) n) : saysT l n n = .none := by
  rw [saysT_is l n h n (Nat.le_refl _), if_neg (by omega)]
theorem says_fit {l : List UInt8} {n : Nat} (h : 64 + 56 * n ≤ l.length) (he : endT (cnts l n) n ≤ l.length) : saysT l n n = .some ((List.range n).map (sayG l n)) (endT (cnts l n) n) := by
  rw [saysT_is l n h n (Nat.le_refl _), if_pos he]
def sayH (l : List UInt8) (n j k : Nat) : Sgd := if k < j then sayG l n k else sayS l k []
theorem sayH_all (l : List UInt8) (n : Nat) : (List.range n).map (sayH l n n) = (List.range n).map (sayG l n) :=
  List.map_congr_left fun k hk => by have := List.mem_range.1 hk; unfold sayH; rw [if_pos this]
theorem sayH_zero (l : List UInt8) (n : Nat) : (List.range n).map (sayH l n 0) = (List.range n).map (fun k => sayS l k []) :=
  List.map_congr_left fun k hk => by unfold sayH; rw [if_neg (by omega)]
theorem sayH_set (l : List UInt8) (n j : Nat) (gs : List Sg) (h : gs.map Sg.d = (List.range n).map (sayH l n j)) (s : Sg) (hs : s.d = sayG l n j) (hj : j < n) : (gs.set j s).map Sg.d = (List.range n).map (sayH l n (j + 1)) := by
  rw [List.map_set, h, hs]
  apply List.ext_getElem?
  intro k
  rw [List.getElem?_set]
  by_cases e : j = k
  · subst e
    rw [if_pos rfl, if_pos (by simpa using hj), List.getElem?_map, List.getElem?_range hj]
    simp [sayH]
  · rw [if_neg e, List.getElem?_map, List.getElem?_map]
    cases hk : (List.range n)[k]? with
    | none => rfl
    | some x =>
      have hx : x = k := by have := List.getElem?_eq_some_iff.1 hk; simpa using this.2.symm
      subst hx
      simp only [Option.map_some, sayH]
      by_cases c : x < j
      · rw [if_pos c, if_pos (by omega)]
      · rw [if_neg c, if_neg (by omega)]
end Go.Pat
namespace Go.Proofs
open Go Go.RowKit Go.Pat

theorem rread4_int (w : World) (A : Option Addr) (cap len at_ n B : Nat) (z : Int) (hz : z = (at_ : Int)) (l : List UInt8) (hr : Bs B w A l) (hl : l.length = len) (hat : at_ + n ≤ len) (hlen : len ≤ 140737488355328) (hn : n ≤ 8) :
    Calls Try.prog 63 #[.slice A len cap, .int .i64 z, .int .i64 n] w fun e w' => e = .returned (.int .u64 (num l at_ n : Nat)) ∧ w = w' := by
  subst hz; exact rread4_any w A cap len at_ n B l hr hl hat hlen hn

theorem Bs.cut {B : Nat} {w : World} {b o : Nat} {l : List UInt8} (h : Bs B w (some ⟨b, o, none⟩) l) (f c : Nat) : Bs B w (some ⟨b, o + f, none⟩) ((l.drop f).take c) := by
  have h1 := (Cs.drop h f).take c
  have h2 : (some (⟨b, o, none⟩ : Addr)).map (·.add f) = some ⟨b, o + f, none⟩ := by
    simp only [Option.map_some, Addr.add]
    split
    · rename_i h0; rw [h0, Nat.add_zero]
    · rfl
  rw [h2] at h1
  have h3 : bcells ((l.drop f).take c) = ((bcells l).drop f).take c := by simp [bcells, List.map_drop, List.map_take]
  show Cs _ _ _ (bcells _)
  rw [h3]
  exact h1
set_option maxRecDepth 20000 in
set_option maxHeartbeats 8000000 in
theorem rsaid4_any (w : World) (A : Option Addr) (cap len n : Nat) (l : List UInt8) (hr : Bs w.heap.size w A l) (hl : l.length = len) (hlen : len ≤ 140737488351232) (hcap : len ≤ cap) (hn : 64 + 56 * n ≤ len) (hn8 : n ≤ 8) :
    Calls Try.prog 64 #[.slice A len cap, .int .i64 n] w (SaysP w l n) := by
  go_enter Try.func64, Try.ntmps64
  have hb1 : Below w.heap.size w (w.alloc (.cells #[.int .u64 0, .slice none 0 0] 38)) := (Below.refl _ _).alloc (Nat.le_refl _) _
  go_wp2_with fail
  refine Calls.mono (rread4_any _ A cap len 24 8 _ l (hr.below hb1) hl (by omega) (by omega) (by decide)) ?_
  rintro e w' ⟨rfl, rfl⟩
  have hen := Nat.lt_of_lt_of_le (num_lt l 24 8) (show 256 ^ 8 ≤ 18446744073709551616 by decide)
  go_wp2_with fail
  go_loopw [7, 8] (fun lv i wr => ∃ (k : Nat) (gs : List Sg) (v : Value), k ≤ n ∧ i = .int .i64 k ∧ OwnI 23 .u64 wr (w.heap.size + 2) lv ((cnts l n).take k) ∧ gs.map Sg.d = (List.range k).map (fun j => sayS l j []) ∧ gs.length = k ∧
    (∀ j, j < k → cntK l j ≤ len) ∧ OwnSs wr (w.heap.size + 2) v gs ∧
    wr.heap[w.heap.size]? = some (.cells #[.int .u64 0, .slice none 0 0] 38 (0, 0)) ∧ wr.heap[w.heap.size + 1]? = some (.cells #[.int .u64 (num l 24 8 : Nat), v] 38 (0, 0)) ∧ Below w.heap.size w wr) (fun _ i _ => n - (intOf i).toNat)
  case atStart =>
    refine ⟨0, [], .slice none 0 0, by omega, rfl, .nil _ _, rfl, rfl, by omega, .nil _ _, ?_, ?_, (hb1.alloc hb1.size _)⟩
    · exact obj_alloc (two_one w _ _)
    · rw [← show (w.alloc (.cells #[.int .u64 0, .slice none 0 0] 38)).heap.size = w.heap.size + 1 from by simp]
      exact heap_alloc_new _ _
  case round =>
    obtain ⟨k, gs, v, hk, rfl, hlv, hT, hgl, hcs, hown, hr0, hr1, hB⟩ := hrel
    have hrw := hr.below hB
    have hbs : w.heap.size + 2 ≤ wr.heap.size := by have := lt_of_block hr1; omega
    by_cases hlt : k < n
    · have hd3 : decide ((k : Int) < (n : Int)) = true := by simp; omega
      have z1 := Lib.hid (show (64 : Int) + 56 * (k : Int) + 32 = ((64 + 56 * k + 32 : Nat) : Int) by omega)
      have z2 := Lib.hid (show (64 : Int) + 56 * (k : Int) + 4 = ((64 + 56 * k + 4 : Nat) : Int) by omega)
      have z3 := Lib.hid (show IntKind.i64.wrap ((64 : Int) + 56 * (k : Int) + 16) = ((64 + 56 * k + 16 : Nat) : Int) by rw [IntKind.wrap_i64]; omega)
      have z4 := Lib.hid (show IntKind.i64.wrap ((64 : Int) + 56 * (k : Int) + 40) = ((64 + 56 * k + 40 : Nat) : Int) by rw [IntKind.wrap_i64]; omega)
      obtain ⟨c, hc⟩ : ∃ c, c = cntK l k := ⟨_, rfl⟩
      obtain ⟨p, hp⟩ : ∃ p, p = num l (64 + 56 * k + 4) 4 := ⟨_, rfl⟩
      have bc : c < 18446744073709551616 := by rw [hc]; exact Nat.lt_of_lt_of_le (num_lt _ _ _) (by decide)
      have bp : p < 4294967296 := by rw [hp]; exact Nat.lt_of_lt_of_le (num_lt _ _ _) (by decide)
      have ba : num l (64 + 56 * k + 16) 8 < 18446744073709551616 := Nat.lt_of_lt_of_le (num_lt _ _ _) (by decide)
      have bq : num l (64 + 56 * k + 40) 8 < 18446744073709551616 := Nat.lt_of_lt_of_le (num_lt _ _ _) (by decide)
      have hc' : cntK l k = num l (64 + 56 * k + 32) 8 := rfl
      have HV := Lib.hid (And.intro hc (And.intro hp hc'))
      clear hc hp hc'
      go_wp2_with fail
      refine Calls.mono (rread4_int _ _ cap len (64 + 56 * k + 32) 8 _ _ z1.out l hrw hl (by omega) (by omega) (by decide)) ?_
      rintro e w' ⟨rfl, rfl⟩
      rw [← HV.out.2.2, ← HV.out.1]
      by_cases hbig : len < c
      · have hd4 : decide (len < c) = true := decide_eq_true hbig
        have HF := Lib.hid (says_big (l := l) (n := n) (by omega) hlt (by rw [hl, ← HV.out.1]; exact hbig))
        have j0 := obj_cell hr0 0
        have j1 := obj_cell hr0 1
        have j2 := obj_frozen hr0 0
        have j3 := obj_frozen hr0 1
        clear hbig hT
        go_wp2
        refine bodyPost_ret (v := .tuple #[.agg #[.int .u64 0, .slice none 0 0], .bool false]) (by simp [results, Try.results64, go_sem, set2_0 hr0, set2_1 hr0]) rfl ?_
        exact .inl ⟨HF.out, ⟨_, _, _, _, rfl⟩, (hB.setCell (p := ⟨w.heap.size, 0, none⟩) (Nat.le_refl _) _).setCell (p := ⟨w.heap.size, 1, none⟩) (Nat.le_refl _) _⟩
      · have hd4 : decide (len < c) = false := decide_eq_false hbig
        go_wp2_with (at_builtin; refine wpList_appI Try_elU64 _ rfl _ _ rfl (w.heap.size + 2) _ ((cnts l n).take k) rfl (hlv.alloc _) _ _ 1 1 [c] rfl rfl (lit_is _ _ _ _ _ ?hx ?hg) ?hq ?hb ?hk)
        case hx => rfl
        case hg => simp
        case hq => rw [List.length_take, cnts_length]; omega
        case hb => simp only [World.size_alloc]; omega
        case hk =>
          intro v2 w2 hown2 hB2 hkeep2
          have hBr : Below (w.heap.size + 2) wr w2 := hB2 wr ((Below.refl _ _).alloc (by omega) _)
          have hBw : Below w.heap.size w w2 := hB.trans (hBr.mono (by omega))
          have hown3 : OwnSs w2 (w.heap.size + 2) v gs := hown.keepT fun g cur t hg ht => by
            have h1 := lt_of_block hg
            have h2 : (wr.alloc (.cells #[.int .u64 (c : Int)] 23)).heap[g]? = wr.heap[g]? := (obj_alloc hg).trans hg.symm
            refine (hkeep2 g (by omega) (fun e => ?_)).trans h2
            obtain ⟨_, cur2, hc2⟩ := hlv.block e
            rw [hg] at hc2
            rcases ht with rfl | rfl <;> cases hc2
          have hr02 := (hBr.block _ (by omega)).trans hr0
          have hr12 := (hBr.block _ (by omega)).trans hr1
          have hs2 := hBr.size
          clear hown hBr hr0 hr1 hkeep2 hB2
          go_wp2_with fail
          refine Calls.mono (rread4_int _ _ cap len (64 + 56 * k + 4) 4 _ _ z2.out l (hr.below hBw) hl (by omega) (by omega) (by decide)) ?_
          rintro e w' ⟨rfl, rfl⟩
          rw [← HV.out.2.1]
          go_wp2_with fail
          obtain ⟨A', k', rfl, _⟩ := hown3.row.form
          rw [hgl] at hr12
          have hown5 : OwnSs w2 (w.heap.size + 2) (.slice A' (k : Nat) k') gs := by have := hown3; rwa [hgl] at this
          have j0 := obj_cell hr12 1
          have j1 := obj_frozen hr12 1
          have jA : ∀ o, (w2.alloc o).cell? ⟨w.heap.size + 1, 1, none⟩ = some (.slice A' (k : Nat) k') := fun o => (World.cell?_alloc_lt w2 _ ⟨w.heap.size + 1, 1, none⟩ (show w.heap.size + 1 < w2.heap.size by omega)).trans j0
          have hrw2 := hr.below hBw
          have wp : IntKind.i64.wrap (p : Int) = (p : Int) := by rw [IntKind.wrap_i64]; omega
          go_region_law (first
              | (go_simp; go_at_call 63; refine Calls.mono (rread4_int w2.drew _ cap len _ 8 _ _ (by first | with_reducible exact z3.out | with_reducible exact z4.out) l hrw2 hl (by omega) (by omega) (by decide)) ?_; rintro e w3 ⟨rfl, rfl⟩)
              | (refine step_appS rfl (.tmp 46) (.tmp 58) rfl (w.heap.size + 2) (.slice A' (k : Nat) k') gs rfl (hown5.below (((Below.refl _ _).alloc (Nat.le_refl _) _).drew)) _ _ ⟨num l (64 + 56 * k + 16) 8, p, none, 0, [], num l (64 + 56 * k + 40) 8⟩ rfl (by first | exact heap_alloc_new w2 _ | fail "heap") (by exact .nil _ _) ⟨ba, bq, Nat.zero_le _⟩ (by omega) (show w.heap.size + 2 ≤ (w2.alloc _).heap.size by rw [World.size_alloc]; omega) ?_
                 intro v3 w3 hown4 hB4 hkeep4
                 have hr13 : w3.heap[w.heap.size + 1]? = some (.cells #[.int .u64 (num l 24 8 : Nat), .slice A' (k : Nat) k'] 38 (0, 0)) := (hkeep4 _ (by show w.heap.size + 1 < (w2.alloc _).heap.size; rw [World.size_alloc]; omega) (fun e => by have := (hown5.row.lt _ e).1; omega)).trans (obj_alloc hr12)
                 have j2 := obj_cell hr13 1
                 have j3 := obj_frozen hr13 1
                 obtain ⟨A3, k3, rfl, _⟩ := hown4.row.form))
          all_goals
            have hB3 : Below w.heap.size w w3 := hBw.trans ((hB4 w2 (((Below.refl _ _).alloc (by omega) _).drew)).mono (by omega))
            have hB35 : Below (w.heap.size + 2) w2 w3 := hB4 w2 (((Below.refl _ _).alloc (by omega) _).drew)
            have hr03 := (hB35.block _ (by omega)).trans hr02
            have hlv3 : OwnI 23 .u64 w3 (w.heap.size + 2) v2 ((cnts l n).take k ++ [c]) := hown2.keep fun g hg => by
              obtain ⟨hg1, cur, hc2⟩ := hown2.block hg
              have h1 := lt_of_block hc2
              refine (hkeep4 g (by show g < (w2.alloc _).heap.size; rw [World.size_alloc]; omega) (fun e => ?_)).trans ((obj_alloc hc2).trans hc2.symm)
              obtain ⟨_, cur2, hc3⟩ := hown5.row.block e
              rw [hc2] at hc3
              cases hc3
            have hrel3 : ∀ u, OwnI 23 .u64 (w3.setCell ⟨w.heap.size + 1, 1, none⟩ u) (w.heap.size + 2) v2 ((cnts l n).take k ++ [c]) := fun u => hlv3.keep fun g hg => Below.heap_setCell _ _ _ _ (by have := (hlv3.lt g hg).1; rintro rfl; simp at this)
            have hown6 : ∀ u, OwnSs (w3.setCell ⟨w.heap.size + 1, 1, none⟩ u) (w.heap.size + 2) (.slice A3 (gs ++ [(⟨num l (64 + 56 * k + 16) 8, p, none, 0, [], num l (64 + 56 * k + 40) 8⟩ : Sg)]).length k3) (gs ++ [⟨num l (64 + 56 * k + 16) 8, p, none, 0, [], num l (64 + 56 * k + 40) 8⟩]) := fun u =>
              hown4.put hr13 (by decide) (by decide) ((KeptBut.refl (fun b => b = w.heap.size + 1) w3).setCell ⟨w.heap.size + 1, 1, none⟩ rfl _)
            have hgl2 : (gs ++ [(⟨num l (64 + 56 * k + 16) 8, p, none, 0, [], num l (64 + 56 * k + 40) 8⟩ : Sg)]).length = k + 1 := by simp [hgl]
            have HO := Lib.hid hown6
            have HL := Lib.hid hrel3
            have HT := Lib.hid hT
            clear hown6 hrel3 hlv3 hT hkeep4 hB4 hown4 hown5 hown2 hown3 jA
            go_wp2
            go_roundw
            case rel =>
              refine ⟨k + 1, gs ++ [⟨num l (64 + 56 * k + 16) 8, p, none, 0, [], num l (64 + 56 * k + 40) 8⟩], .slice A3 (k + 1 : Nat) k3, by omega, by go_num, ?_, ?_, hgl2, ?_, ?_, ?_, ?_, ?_⟩
              · have e : (cnts l n).take (k + 1) = (cnts l n).take k ++ [c] := by rw [List.take_add_one, cnts_get l n k hlt, ← HV.out.1]; rfl
                rw [e]; exact HL.out _
              · rw [List.map_append, HT.out, List.range_succ, List.map_append, HV.out.2.1]
                rfl
              · intro j hj
                by_cases e : j = k
                · rw [e, ← HV.out.1]; omega
                · exact hcs j (by omega)
              · have := HO.out (.slice A3 (k + 1 : Nat) k3); rwa [hgl2] at this
              · rw [Below.heap_setCell _ _ _ _ (by simp)]; exact hr03
              · exact obj_set hr13 1 _
              · exact hB3.setCell (by simp) _
            case measure => simp [intOf]; omega
    · have hd3 : decide ((k : Int) < (n : Int)) = false := by simp; omega
      obtain rfl : k = n := by omega
      rw [List.take_of_length_le (by rw [cnts_length]; exact Nat.le_refl _)] at hlv
      have hcl := cnts_length l k
      have hmx : ∀ m ∈ cnts l k, m ≤ 140737488351232 := fun m hm => by
        obtain ⟨j, hj, rfl⟩ := List.mem_map.1 hm
        have := hcs j (List.mem_range.1 hj)
        omega
      obtain ⟨A1, c1, rfl, hlc⟩ := hlv.form
      rw [hcl] at hlv ⊢
      have hel := endT_le hmx (by omega) k (by omega)
      have hel2 : endT (cnts l k) k ≤ 4611686018427387904 := Nat.le_trans hel (by decide)
      go_wp2_with fail
      refine Calls.mono (rplaces4_any _ A1 c1 k _ (cnts l k) hcl hlc (Nat.le_refl _) hn8 hmx) ?_
      rintro e w3 ⟨v3, rfl, hv3, hB3⟩
      obtain ⟨A2, c2, rfl, hpc⟩ := hv3.form
      rw [plaT_length] at hv3 ⊢
      have hr03 := (hB3.block _ (by omega)).trans hr0
      have hr13 := (hB3.block _ (by omega)).trans hr1
      have hB3w := hB.trans (hB3.mono hB.size)
      by_cases hbig : len < endT (cnts l k) k
      · have hd4 : decide (len < endT (cnts l k) k) = true := decide_eq_true hbig
        have HF := Lib.hid (says_end (l := l) (n := k) (by omega) (by omega))
        have j0 := obj_cell hr03 0
        have j1 := obj_cell hr03 1
        have j2 := obj_frozen hr03 0
        have j3 := obj_frozen hr03 1
        clear hbig hT
        go_wp2
        refine bodyPost_ret (v := .tuple #[.agg #[.int .u64 0, .slice none 0 0], .bool false]) (by simp [results, Try.results64, go_sem, set2_0 hr03, set2_1 hr03]) rfl ?_
        exact .inl ⟨HF.out, ⟨_, _, _, _, rfl⟩, (hB3w.setCell (p := ⟨w.heap.size, 0, none⟩) (Nat.le_refl _) _).setCell (p := ⟨w.heap.size, 1, none⟩) (Nat.le_refl _) _⟩
      · have hd4 : decide (len < endT (cnts l k) k) = false := decide_eq_false hbig
        obtain ⟨A', k', rfl, hgc⟩ := hown.row.form
        rw [hgl] at hr13 hr1
        have hown3 : OwnSs w3 (w.heap.size + 2) (.slice A' (k : Nat) k') gs := by have := hown.below hB3; rwa [hgl] at this
        have hT0 : gs.map Sg.d = (List.range k).map (sayH l k 0) := by rw [sayH_zero]; exact hT
        go_wp2_with fail
        go_loopw [14] (fun i wq => ∃ (j : Nat) (hs : List Sg), j ≤ k ∧ i = .int .i64 j ∧ hs.length = k ∧ hs.map Sg.d = (List.range k).map (sayH l k j) ∧ OwnSs wq (w.heap.size + 2) (.slice A' (k : Nat) k') hs ∧
          OwnI 23 .u64 wq (w.heap.size + 2) (.slice A1 (k : Nat) c1) (cnts l k) ∧ OwnI 23 .u64 wq (w.heap.size + 2) (.slice A2 (k : Nat) c2) (plaT (cnts l k) k) ∧
          wq.heap[w.heap.size]? = some (.cells #[.int .u64 0, .slice none 0 0] 38 (0, 0)) ∧ wq.heap[w.heap.size + 1]? = some (.cells #[.int .u64 (num l 24 8 : Nat), .slice A' (k : Nat) k'] 38 (0, 0)) ∧ Below w.heap.size w wq) (fun i _ => k - (intOf i).toNat)
        case atStart => exact ⟨0, gs, by omega, rfl, hgl, hT0, hown3, hlv.below hB3, hv3.base hbs, hr03, hr13, hB3w⟩
        case round =>
          clear hT hT0 hown3 hv3 hr03 hr13 hB3w hown hlv hr0 hr1 hlc hpc hgc hB3 hrw
          obtain ⟨j, hs, hj, rfl, hhl, hTj, hown, hlv, hpv, hr0, hr1, hBq⟩ := hrel
          by_cases hlt : j < k
          · have hd5 : decide ((j : Int) < (k : Int)) = true := decide_eq_true (by omega)
            have hji : (j : Int) < (k : Int) := by omega
            obtain ⟨g, rfl⟩ : ∃ g, A' = some ⟨g, 0, none⟩ := by
              rcases hown.row.2 with ⟨_, h0⟩ | ⟨g, _, _, e, _⟩
              · omega
              · simp only [Value.slice.injEq] at e; exact ⟨g, e.1⟩
            obtain ⟨_, _, e0, hsg⟩ := hown.sgs (by omega)
            simp only [Value.slice.injEq] at e0
            obtain ⟨rfl, -, rfl⟩ := e0
            obtain ⟨_, _, e0, hgw, q0, q1, q2, q3⟩ := hsg.cells j (by omega)
            cases e0
            rw [Nat.zero_add] at q0 q1 q2 q3
            clear hsg
            obtain ⟨_, _, e0, hlc⟩ := hlv.form
            simp only [Value.slice.injEq] at e0
            obtain ⟨rfl, -, rfl⟩ := e0
            obtain ⟨b1, o1, rfl, hb1w, q4⟩ := Cs.at_i hlc j (by omega)
            obtain ⟨_, _, e0, hpc⟩ := hpv.form
            simp only [Value.slice.injEq] at e0
            obtain ⟨rfl, -, rfl⟩ := e0
            obtain ⟨b2, o2, rfl, hb2w, q5⟩ := Cs.at_i hpc j (by rw [plaT_length]; exact hlt)
            have hd : hs[j].d = sayS l j [] := by
              have h1 : (hs.map Sg.d)[j]? = ((List.range k).map (sayH l k j))[j]? := by rw [hTj]
              rw [List.getElem?_map, List.getElem?_map, List.getElem?_range hlt, List.getElem?_eq_getElem (show j < hs.length by omega)] at h1
              simp only [Option.map_some, Option.some.injEq] at h1
              rw [h1]; unfold sayH; rw [if_neg (by omega)]
            have hc0 : (cnts l k)[j]'(by omega) = cntK l j := by
              have := cnts_get l k j hlt
              rw [List.getElem?_eq_getElem (by omega)] at this
              exact Option.some.inj this
            have hp0 : (plaT (cnts l k) k)[j]'(by rw [plaT_length]; exact hlt) = plAt (cnts l k) j := by
              have := plaT_get (cnts l k) k j hlt
              rw [List.getElem?_eq_getElem (by rw [plaT_length]; exact hlt)] at this
              exact Option.some.inj this
            rw [hc0] at q4
            rw [hp0] at q5
            have hfit := plAt_fits (cnts l k) j (cnts_get l k j hlt) hlt
            obtain ⟨f, hf⟩ : ∃ f, f = plAt (cnts l k) j := ⟨_, rfl⟩
            obtain ⟨c, hc⟩ : ∃ c, c = cntK l j := ⟨_, rfl⟩
            have hz : c = 0 → f = 0 := fun h0 => by
              have h1 := cnts_get l k j hlt
              rw [← hc, h0] at h1
              rw [hf]; exact plAt_zero _ _ h1
            rw [← hf] at q5 hfit
            rw [← hc] at q4 hfit
            have HD := Lib.hid (And.intro hd (And.intro hf (And.intro hc hTj)))
            have hfl : (f : Int) ≤ ((f : Int) + (c : Int)) := by omega
            have hfc : ((f : Int) + (c : Int)) ≤ (cap : Int) := by omega
            have hne : ¬ f = cap := fun e => by
              by_cases h0 : c = 0
              · have := hz h0; omega
              · omega
            have hne2 : ¬ cap = f := fun e => hne e.symm
            have hwr : IntKind.u64.wrap ((f : Int) + (c : Int)) = (f : Int) + (c : Int) := by rw [IntKind.wrap_u64]; omega
            clear hd hf hc hTj hc0 hp0 hlc hpc hz
            obtain ⟨bb, bo, rfl, hbw⟩ := hr.form (by intro h; have := congrArg List.length h; rw [bcells_length] at this; simp at this; rw [this] at hl; simp at hl; omega)
            have j0 := obj_cell hr1 1
            have hr15 := heap_alloc_new wr (.cells #[.int .u64 (hs[j].addr : Int), .int .i64 hs[j].perm, .slice hs[j].A hs[j].data.length hs[j].cap, .int .u64 (hs[j].size : Int)] 73)
            go_wp2_with fail
            obtain ⟨W1, hW1⟩ : ∃ W1 : World, W1 = wr.alloc (.cells #[.int .u64 (hs[j].addr : Int), .int .i64 hs[j].perm, .slice hs[j].A hs[j].data.length hs[j].cap, .int .u64 (hs[j].size : Int)] 73) := ⟨_, rfl⟩
            have hb11 : Below wr.heap.size wr W1 := by rw [hW1]; exact (Below.refl _ _).alloc (Nat.le_refl _) _
            have hsz1 : W1.heap.size = wr.heap.size + 1 := by rw [hW1, World.size_alloc]
            rw [← hW1] at hr15 ⊢
            clear hW1
            have q41 := (hb11.cell (p := ⟨b1, o1 + j, none⟩) hb1w).trans q4
            have q51 := (hb11.cell (p := ⟨b2, o2 + j, none⟩) hb2w).trans q5
            have q42 : ∀ o, (W1.alloc o).cell? ⟨b1, o1 + j, none⟩ = some (.int .u64 (c : Int)) := fun o => (World.cell?_alloc_lt W1 _ ⟨b1, o1 + j, none⟩ (show b1 < W1.heap.size by omega)).trans q41
            have q52 : ∀ o, (W1.alloc o).cell? ⟨b2, o2 + j, none⟩ = some (.int .u64 (f : Int)) := fun o => (World.cell?_alloc_lt W1 _ ⟨b2, o2 + j, none⟩ (show b2 < W1.heap.size by omega)).trans q51
            have hs1 : w.heap.size + 2 ≤ W1.heap.size := by have := lt_of_block hr1; omega
            have htn : ((f : Int) + (c : Int)).toNat = f + c := by omega
            have hl0 : OwnB (W1.alloc (.cells #[] 5)).drew (wr.heap.size + 1) (.slice (some ⟨wr.heap.size + 1, 0, none⟩) 0 0) [] := by rw [← hsz1]; exact World.ownsRow_lit W1 #[] 0 (Nat.le_refl _) (by decide) rfl
            have hBx : Below w.heap.size w ((W1.alloc (.cells #[] 5)).drew) := ((hBq.trans (hb11.mono hBq.size)).alloc (Nat.le_trans (Nat.le_add_right _ _) hs1) _).drew
            have hsrc := Bs.cut (hr.below hBx) f c
            have hml : ((l.drop f).take c).length = c := by rw [List.length_take, List.length_drop, hl]; omega
            have hbW : wr.heap.size + 1 ≤ ((W1.alloc (.cells #[] 5)).drew).heap.size := by show _ ≤ (W1.alloc _).heap.size; rw [World.size_alloc]; omega
            go_region_held3 (fun w' => w'.cell? ⟨b1, o1 + j, none⟩ = some (.int .u64 (c : Int)) ∧ w'.cell? ⟨b2, o2 + j, none⟩ = some (.int .u64 (f : Int)))
              (first | exact ⟨q41, q51⟩ | exact ⟨q42 _, q52 _⟩ | exact ⟨k1, k2⟩ | exact ⟨l1 _, l2 _⟩)
              (first
                | (refine step_appB rfl (.tmp 82) (.tmp 97) rfl (wr.heap.size + 1) _ [] rfl hl0 w.heap.size (some ⟨bb, bo + f, none⟩) c (cap - f) ((l.drop f).take c) rfl hml hsrc (show [].length + c ≤ _ by simp only [List.length_nil]; omega) hbW ?_
                   intro v3 w4 hv4 hB4 hk4
                   obtain ⟨A3, c3, rfl, _⟩ := hv4.form
                   have hB14 : Below (wr.heap.size + 1) W1 w4 := hB4 W1 (((Below.refl _ _).alloc (Nat.le_of_eq hsz1.symm) _).drew)
                   have hr25 := (hB14.block _ (Nat.lt_succ_self _)).trans hr15
                   have s2 := obj_cell hr25 2
                   have s2f := obj_frozen hr25 2
                   have k1 := (hB14.cell (p := ⟨b1, o1 + j, none⟩) (show b1 < wr.heap.size + 1 by omega)).trans q41
                   have k2 := (hB14.cell (p := ⟨b2, o2 + j, none⟩) (show b2 < wr.heap.size + 1 by omega)).trans q51
                   have l1 : ∀ u, (w4.setCell ⟨wr.heap.size, 2, none⟩ u).cell? ⟨b1, o1 + j, none⟩ = some (.int .u64 (c : Int)) := fun u => (World.cell?_of_block (Below.heap_setCell _ _ _ _ (show b1 ≠ wr.heap.size by omega))).trans k1
                   have l2 : ∀ u, (w4.setCell ⟨wr.heap.size, 2, none⟩ u).cell? ⟨b2, o2 + j, none⟩ = some (.int .u64 (f : Int)) := fun u => (World.cell?_of_block (Below.heap_setCell _ _ _ _ (show b2 ≠ wr.heap.size by omega))).trans k2))
            rw [List.nil_append] at hv4
            rw [hml] at hv4
            obtain ⟨W5, hW5⟩ : ∃ W : World, W = w4.setCell ⟨wr.heap.size, 2, none⟩ (.slice A3 c c3) := ⟨_, rfl⟩
            have hr35 : W5.heap[wr.heap.size]? = some (.cells #[.int .u64 (hs[j].addr : Int), .int .i64 hs[j].perm, .slice A3 c c3, .int .u64 (hs[j].size : Int)] 73 (0, 0)) := by rw [hW5]; exact obj_set hr25 2 _
            have hB5 : Below wr.heap.size wr W5 := by rw [hW5]; exact (hb11.trans (hB14.mono (Nat.le_succ _))).setCell (p := ⟨wr.heap.size, 2, none⟩) (Nat.le_refl _) _
            have hv5 : OwnB W5 (w.heap.size + 2) (.slice A3 c c3) ((l.drop f).take c) := by
              refine OwnB.base (OwnB.keep hv4 fun x hx => ?_) (by omega)
              have := (hv4.block hx).1
              rw [hW5]
              exact Below.heap_setCell _ _ _ _ (by show x ≠ wr.heap.size; omega)
            rw [← hW5]
            clear hW5
            have hown5 := hown.below hB5
            have hlv5 := hlv.below hB5
            have hpv5 := hpv.below hB5
            have hr05 := (hB5.block _ (lt_of_block hr0)).trans hr0
            have hr15' := (hB5.block _ (lt_of_block hr1)).trans hr1
            have hg2 : w.heap.size + 2 ≤ g := (hown.row.block rfl).1
            have m0 := obj_cell hr15' 1
            have m1 := obj_cell hr35 0
            have m2 := obj_cell hr35 1
            have m3 := obj_cell hr35 2
            have m4 := obj_cell hr35 3
            have n0 := (hB5.cell (p := ⟨g, j * 4, none⟩) hgw).trans q0
            have n1 := (hB5.cell (p := ⟨g, j * 4 + 1, none⟩) hgw).trans q1
            have n2 := (hB5.cell (p := ⟨g, j * 4 + 2, none⟩) hgw).trans q2
            have n3 := (hB5.cell (p := ⟨g, j * 4 + 3, none⟩) hgw).trans q3
            obtain ⟨_, curg, hcg⟩ := hown5.row.block rfl
            have fz : ∀ i, W5.frozen? ⟨g, i, none⟩ = false := fun i => by simp [World.frozen?, hcg]
            have hset := OwnSs.set4 hown5 hhl j hlt ⟨hs[j].addr, hs[j].perm, A3, c3, (l.drop f).take c, hs[j].size⟩ (by show OwnB W5 _ (.slice A3 ((l.drop f).take c).length c3) _; rw [hml]; exact hv5) (by
              have := hown.small hs[j] (List.getElem_mem _)
              refine ⟨this.1, this.2.1, ?_⟩
              show ((l.drop f).take c).length ≤ _
              rw [hml]; omega)
            simp only [hml] at hset
            have e := HD.out.1
            unfold sayS Sg.d at e
            simp only [Sgd.mk.injEq] at e
            have hTn : (hs.set j ⟨hs[j].addr, hs[j].perm, A3, c3, (l.drop f).take c, hs[j].size⟩).map Sg.d = (List.range k).map (sayH l k (j + 1)) := by
              refine sayH_set l k j hs HD.out.2.2.2 _ ?_ hlt
              show Sgd.mk hs[j].addr hs[j].perm ((l.drop f).take c) hs[j].size = sayG l k j
              unfold sayG sayS dataK
              rw [e.1, e.2.1, e.2.2.2, ← HD.out.2.1, ← HD.out.2.2.1]
            have HS := Lib.hid hset
            have HTN := Lib.hid hTn
            have oth : ∀ {x : Nat} {cur : Array Value} {t : TypeId}, W5.heap[x]? = some (.cells cur t (0, 0)) → t ≠ 73 → x ≠ g := fun h1 h2 h3 => by
              subst h3
              rw [hcg] at h1
              cases h1
              exact h2 rfl
            clear hset hTn e hv4 hB4 hk4 hr25 s2 s2f hsrc hml q41 q51 q42 q52 hl0
            go_wp2
            go_roundw
            case rel =>
              refine ⟨j + 1, _, by omega, by go_num, ?_, HTN.out, HS.out, ?_, ?_, ?_, ?_, ?_⟩
              · rw [List.length_set]; exact hhl
              · exact hlv5.keep fun x hx => by
                  obtain ⟨_, cur, hc5⟩ := hlv5.block hx
                  have hne := oth hc5 (by decide)
                  rw [Below.heap_setCell _ _ _ _ hne, Below.heap_setCell _ _ _ _ hne, Below.heap_setCell _ _ _ _ hne, Below.heap_setCell _ _ _ _ hne]
              · exact hpv5.keep fun x hx => by
                  obtain ⟨_, cur, hc5⟩ := hpv5.block hx
                  have hne := oth hc5 (by decide)
                  rw [Below.heap_setCell _ _ _ _ hne, Below.heap_setCell _ _ _ _ hne, Below.heap_setCell _ _ _ _ hne, Below.heap_setCell _ _ _ _ hne]
              · have hne : w.heap.size ≠ g := by omega
                rw [Below.heap_setCell _ _ _ _ hne, Below.heap_setCell _ _ _ _ hne, Below.heap_setCell _ _ _ _ hne, Below.heap_setCell _ _ _ _ hne]
                exact hr05
              · have hne : w.heap.size + 1 ≠ g := by omega
                rw [Below.heap_setCell _ _ _ _ hne, Below.heap_setCell _ _ _ _ hne, Below.heap_setCell _ _ _ _ hne, Below.heap_setCell _ _ _ _ hne]
                exact hr15'
              · have hge : w.heap.size ≤ g := by omega
                exact ((((hBq.trans (hB5.mono hBq.size)).setCell (p := ⟨g, j * 4, none⟩) hge _).setCell (p := ⟨g, j * 4 + 1, none⟩) hge _).setCell (p := ⟨g, j * 4 + 2, none⟩) hge _).setCell (p := ⟨g, j * 4 + 3, none⟩) hge _
            case measure => simp [intOf]; omega
          · have hd5 : decide ((j : Int) < (k : Int)) = false := decide_eq_false (by omega)
            obtain rfl : j = k := by omega
            have HF := Lib.hid (says_fit (l := l) (n := j) (by omega) (by omega))
            have HTN := Lib.hid (hTj.trans (sayH_all l j))
            have j0 := obj_cell hr1 0
            have j1 := obj_cell hr1 1
            have j2 := obj_cell hr0 0
            have j3 := obj_cell hr0 1
            have j4 := obj_frozen hr0 0
            have j5 := obj_frozen hr0 1
            have hfin : ∀ u u' : Value, Below w.heap.size w ((wr.setCell ⟨w.heap.size, 0, none⟩ u).setCell ⟨w.heap.size, 1, none⟩ u') := fun u u' => (hBq.setCell (p := ⟨w.heap.size, 0, none⟩) (Nat.le_refl _) u).setCell (p := ⟨w.heap.size, 1, none⟩) (Nat.le_refl _) u'
            have hown2 : ∀ u u' : Value, OwnSs ((wr.setCell ⟨w.heap.size, 0, none⟩ u).setCell ⟨w.heap.size, 1, none⟩ u') (w.heap.size + 2) (.slice A' (j : Nat) k') hs := fun u u' =>
              hown.put hr0 (by decide) (by decide) (((KeptBut.refl (fun b => b = w.heap.size) wr).setCell ⟨w.heap.size, 0, none⟩ rfl u).setCell ⟨w.heap.size, 1, none⟩ rfl u')
            clear hTj
            go_wp2
            refine bodyPost_ret (v := .tuple #[.agg #[.int .u64 (num l 24 8 : Nat), .slice A' j k'], .bool true]) (by simp [results, Try.results64, go_sem, set2_0 hr0, set2_1 hr0]) rfl ?_
            exact .inr ⟨_, _, _, hs, HF.out, rfl, ⟨(hown2 _ _).row.base (Nat.le_add_right _ 2), fun s hs' => ((hown2 _ _).bytes s hs').base (Nat.le_add_right _ 2), hown.small⟩, HTN.out, hhl, hfin _ _⟩
end Go.Proofs
