/- Where segments' bytes stand: patinaref04.counts, places. -/
import Derived.Test.YtkgnodlhdilmoaaPl
namespace Go.Proofs
open Go Go.RowKit Go.Pat

theorem Cs.at_i {B : Nat} {w : World} {A : Option Addr} {k : IntKind} {l : List Nat} (h : Cs B w A (icells k l)) (i : Nat) (hi : i < l.length) : ∃ b o, A = some ⟨b, o, none⟩ ∧ b < B ∧ w.cell? ⟨b, o + i, none⟩ = some (.int k ((l[i] : Nat) : Int)) := by
  obtain ⟨b, o, e, hb, hc⟩ := h i (by simpa [icells] using hi)
  exact ⟨b, o, e, hb, by rw [hc]; simp [icells]⟩

set_option maxHeartbeats 4000000 in
theorem rcounts4_any (w : World) (A : Option Addr) (cap en : Nat) (ss : List Sg) (hP : SgsAt w.heap.size w A ss) (hn8 : ss.length ≤ 8) :
    Calls Try.prog 69 #[.agg #[.int .u64 en, .slice A ss.length cap]] w fun e w' => ∃ v, e = .returned v ∧
      OwnI 23 .u64 w' w.heap.size v (ss.map fun s => s.data.length) ∧ Below w.heap.size w w' := by
  have hb0 : Below w.heap.size w (w.alloc (.cells #[.int .u64 en, .slice A ss.length cap] 38)) := (Below.refl _ _).alloc (Nat.le_refl _) _
  have hl : (ss.map fun s => s.data.length).length = ss.length := List.length_map ..
  have hfew := hP.few
  go_enter Try.func69, Try.ntmps69
  go_wp2
  go_loopw [3, 4] (fun out i wr => ∃ j : Nat, j ≤ ss.length ∧ i = .int .i64 j ∧ OwnI 23 .u64 wr (w.heap.size + 1) out ((ss.map fun s => s.data.length).take j) ∧
    Below (w.heap.size + 1) (w.alloc (.cells #[.int .u64 (en : Int), .slice A ss.length cap] 38)) wr) (fun _ i _ => ss.length - (intOf i).toNat)
  case atStart => exact ⟨0, by omega, rfl, .nil _ _, Below.refl _ _⟩
  case round =>
    obtain ⟨j, hj, rfl, hown, hB⟩ := hrel
    obtain ⟨c0, c1⟩ := two_cells1 _ _ _ _ hB
    have hbs : w.heap.size + 1 ≤ wr.heap.size := by have := hB.size; simpa using this
    have hPj := hP.below (hb0.trans (hB.mono (Nat.le_succ _)))
    by_cases hlt : j < ss.length
    · have hd3 : decide ((j : Int) < (ss.length : Int)) = true := by simp; omega
      obtain ⟨b, o, rfl, hbw, q0, q1, q2, q3⟩ := hPj.cells j hlt
      have hsm := (hPj.small ss[j] (List.getElem_mem hlt)).2.2
      have hst : (ss.map fun s => s.data.length).take (j + 1) = (ss.map fun s => s.data.length).take j ++ [ss[j].data.length] := by rw [List.take_add_one]; simp [hlt]
      have hlen : ((ss.map fun s => s.data.length).take j).length = j := by rw [List.length_take, hl]; omega
      have HE := Lib.hid (And.intro hst hlen)
      clear hst hlen
      go_wp2_with (at_builtin; refine wpList_appI Try_elU64 _ rfl _ _ rfl (w.heap.size + 1) _ ((ss.map fun s => s.data.length).take j) rfl (hown.alloc _) _ _ 1 1 [ss[j].data.length] rfl rfl (lit_is _ _ _ _ _ ?hx ?hg) ?hq ?hb ?hk)
      case hx => rfl
      case hg => rfl
      case hq => rw [HE.out.2]; omega
      case hb => simp only [World.size_alloc]; omega
      case hk =>
        intro v' w1 hown' hB' hkeep
        have hB1 := hB' (w.alloc (.cells #[.int .u64 (en : Int), .slice (some ⟨b, o, none⟩) ss.length cap] 38)) (hB.alloc (by omega) _)
        rw [← HE.out.1] at hown'
        clear hB' hown hkeep
        go_wp2
        go_roundw
        case rel => exact ⟨j + 1, by omega, by go_num, hown', hB1⟩
        case measure => simp [intOf]; omega
    · have hd3 : decide ((j : Int) < (ss.length : Int)) = false := by simp; omega
      obtain rfl : j = ss.length := by omega
      rw [List.take_of_length_le (by omega)] at hown
      go_wp2
      go_ret
      exact ⟨_, rfl, hown.base (Nat.le_succ _), hb0.trans (hB.mono (Nat.le_succ _))⟩

set_option maxHeartbeats 4000000 in
theorem rplaces4_any (w : World) (A : Option Addr) (cap n B : Nat) (ls : List Nat) (hn : ls.length = n) (hr : Cs B w A (icells .u64 ls)) (hBw : B ≤ w.heap.size) (hn8 : n ≤ 8) (hmx : ∀ m ∈ ls, m ≤ 140737488351232) :
    Calls Try.prog 68 #[.slice A n cap] w fun e w' => ∃ v, e = .returned (.tuple #[v, .int .u64 (endT ls n : Nat)]) ∧ OwnI 23 .u64 w' w.heap.size v (plaT ls n) ∧ Below w.heap.size w w' := by
  go_enter Try.func68, Try.ntmps68
  go_wp2
  go_loopw [4, 5, 6] (fun ed out i wr => ∃ j : Nat, j ≤ n ∧ i = .int .i64 j ∧ ed = .int .u64 (endT ls j : Nat) ∧ OwnI 23 .u64 wr w.heap.size out (plaT ls j) ∧ Below w.heap.size w wr) (fun _ _ i _ => n - (intOf i).toNat)
  case atStart => exact ⟨0, by omega, rfl, by simp only [endT, hn]; exact congrArg (Value.int .u64) (by omega), .nil _ _, Below.refl _ _⟩
  case round =>
    obtain ⟨j, hj, rfl, rfl, hown, hB⟩ := hrel
    have hbs := hB.size
    have hrj := hr.below (hB.mono hBw)
    have hel := endT_le hmx (by omega) j (by omega)
    have hel2 : endT ls j ≤ 4611686018427387904 := Nat.le_trans hel (by decide)
    by_cases hlt : j < n
    · have hd3 : decide ((j : Int) < (n : Int)) = true := by simp; omega
      obtain ⟨b, o, rfl, hbw, q0⟩ := Cs.at_i hrj j (by omega)
      have hget : ls[j]? = some (ls[j]'(by omega)) := List.getElem?_eq_getElem (by omega)
      have hsm := hmx _ (List.mem_of_getElem? hget)
      obtain ⟨m, hm⟩ : ∃ m, m = ls[j]'(by omega) := ⟨_, rfl⟩
      rw [← hm] at hget q0 hsm
      clear hm
      by_cases hz : m = 0
      · have e1 : endT ls (j + 1) = endT ls j := by rw [endT, hget]; simp only [hz, if_true]
        have e2 : plaT ls (j + 1) = plaT ls j ++ [0] := by rw [plaT, hget]; simp only [hz, if_true]
        have HE := Lib.hid (And.intro e1 e2)
        clear e1 e2
        have hz1 : ((m : Int) == 0) = true := by rw [hz]; rfl
        clear hz
        go_wp2_with (at_builtin; refine wpList_appI Try_elU64 _ rfl _ _ rfl w.heap.size _ (plaT ls j) rfl (hown.alloc _) _ _ 1 1 [0] rfl rfl (lit_is _ _ _ _ _ ?hx ?hg) ?hq ?hb ?hk)
        case hx => rfl
        case hg => rfl
        case hq => rw [plaT_length]; omega
        case hb => simp only [World.size_alloc]; omega
        case hk =>
          intro v' w1 hown' hB' _
          have hB1 := hB' w (hB.alloc hbs _)
          rw [← HE.out.2] at hown'
          clear hB' hown
          go_wp2
          go_roundw
          case rel => exact ⟨j + 1, by omega, by go_num, by rw [HE.out.1], hown', hB1⟩
          case measure => simp [intOf]; omega
      · have e1 : endT ls (j + 1) = roundN (endT ls j) + m := by rw [endT, hget]; simp only [if_neg hz]
        have e2 : plaT ls (j + 1) = plaT ls j ++ [roundN (endT ls j)] := by rw [plaT, hget]; simp only [if_neg hz]
        have HE := Lib.hid (And.intro e1 e2)
        clear e1 e2
        have hz1 : ((m : Int) == 0) = false := beq_eq_false_iff_ne.2 (by omega)
        have hr2 : roundN (endT ls j) ≤ 1125899906843136 + 4095 := by unfold roundN; omega
        go_wp2_with fail
        refine Calls.mono (rround4_any (endT ls j) hel2 _) ?_
        rintro e w' ⟨rfl, rfl⟩
        go_wp2_with (at_builtin; refine wpList_appI Try_elU64 _ rfl _ _ rfl w.heap.size _ (plaT ls j) rfl (hown.alloc _) _ _ 1 1 [roundN (endT ls j)] rfl rfl (lit_is _ _ _ _ _ ?hx ?hg) ?hq ?hb ?hk)
        case hx => rfl
        case hg => rfl
        case hq => rw [plaT_length]; omega
        case hb => simp only [World.size_alloc]; omega
        case hk =>
          intro v' w1 hown' hB' hkeep
          have hB1 := hB' w (hB.alloc hbs _)
          rw [← HE.out.2] at hown'
          have q0' := (hB1.cell (p := ⟨b, o + j, none⟩) (Nat.lt_of_lt_of_le hbw hBw)).symm ▸ ((hB.cell (p := ⟨b, o + j, none⟩) (Nat.lt_of_lt_of_le hbw hBw)).symm.trans q0)
          clear hB' hown hkeep
          go_wp2
          go_roundw
          case rel => exact ⟨j + 1, by omega, by go_num, by rw [HE.out.1]; exact congrArg (Value.int .u64) (by omega), hown', hB1⟩
          case measure => simp [intOf]; omega
    · have hd3 : decide ((j : Int) < (n : Int)) = false := by simp; omega
      obtain rfl : j = n := by omega
      go_wp2
      go_ret2
      exact ⟨_, rfl, hown, hB⟩
end Go.Proofs
