/- patinaplain.Instrs of the same instructions. -/
import Derived.Test.YtemngapfnkokiaaDoorLiR
import Derived.BigQuiet
import Derived.Deep.QuietTactic
namespace Go.Proofs
open Go Go.RowKit Go.Pat
/-- an instruction's cells where they lie. -/
theorem ins_at {B : Nat} {w : World} {A : Option Addr} {l : List In} (h : Cs B w A (icells l)) (k : Nat) (hk : k < l.length) :
    ∃ b o, A = some ⟨b, o, none⟩ ∧ b < B ∧ w.cell? ⟨b, o + k * 5, none⟩ = some (.int .i64 l[k].op) ∧ w.cell? ⟨b, o + k * 5 + 1, none⟩ = some (.int .i64 l[k].rd) ∧ w.cell? ⟨b, o + k * 5 + 2, none⟩ = some (.int .i64 l[k].a) ∧ w.cell? ⟨b, o + k * 5 + 3, none⟩ = some (.int .i64 l[k].b) ∧ w.cell? ⟨b, o + k * 5 + 4, none⟩ = some (.int .i64 l[k].n) := by
  have hlen := icells_length l
  have gt : ∀ j, j < 5 → ∃ b o, A = some ⟨b, o, none⟩ ∧ b < B ∧ w.cell? ⟨b, o + (k * 5 + j), none⟩ = (l[k].cells)[j]? := fun j hj => by
    obtain ⟨b, o, e, hb, hx⟩ := h (k * 5 + j) (by omega)
    refine ⟨b, o, e, hb, ?_⟩
    rw [hx, ← icells_get l k hk j hj, List.getElem?_eq_getElem (by omega)]
  obtain ⟨b, o, rfl, hb, g0⟩ := gt 0 (by omega)
  obtain ⟨_, _, e1, _, g1⟩ := gt 1 (by omega)
  obtain ⟨_, _, e2, _, g2⟩ := gt 2 (by omega)
  obtain ⟨_, _, e3, _, g3⟩ := gt 3 (by omega)
  obtain ⟨_, _, e4, _, g4⟩ := gt 4 (by omega)
  cases e1; cases e2; cases e3; cases e4
  exact ⟨b, o, rfl, hb, g0, g1, g2, g3, g4⟩
set_option maxHeartbeats 4000000 in
theorem pInstrs_any (w : World) (A1 A2 : Option Addr) (n c1 c2 : Nat) (l : List In) (h1 : Cs w.heap.size w A1 (icells l)) (h2 : Cs w.heap.size w A2 (icells l)) (hn : l.length = n) (hlen : n ≤ 1000000) :
    Calls Tryd.prog 12 #[.slice A1 n c1, .slice A2 n c2] w fun e w' => e = .returned (.bool true) ∧ Below w.heap.size w w' := by
  subst hn
  go_enter Tryd.func12, Tryd.ntmps12
  go_wp2_with fail
  go_loopw [13] (fun i wr => ∃ k : Nat, k ≤ l.length ∧ i = .int .i64 k ∧ Below w.heap.size w wr) (fun i _ => l.length - (intOf i).toNat)
  case atStart => exact ⟨0, Nat.zero_le _, rfl, Below.refl _ _⟩
  case round =>
    obtain ⟨k, hk, rfl, hB⟩ := hrel
    by_cases hlt : k < l.length
    · have t1 : decide ((k : Int) < (l.length : Int)) = true := decide_eq_true (by omega)
      obtain ⟨b1, o1, rfl, _, x0, x1, x2, x3, x4⟩ := ins_at (h1.below hB) k hlt
      obtain ⟨b2, o2, rfl, _, y0, y1, y2, y3, y4⟩ := ins_at (h2.below hB) k hlt
      generalize l[k].op = p0 at *
      generalize l[k].rd = p1 at *
      generalize l[k].a = p2 at *
      generalize l[k].b = p3 at *
      generalize l[k].n = p4 at *
      go_wp2
      go_quiet (fail)
      go_wp2
      go_roundw
      case rel => exact ⟨k + 1, by omega, by go_num, bdrewN hB _⟩
      case measure => simp [intOf]; omega
    · have t1 : decide ((k : Int) < (l.length : Int)) = false := decide_eq_false (by omega)
      go_wp2
      go_ret
      exact ⟨rfl, hB⟩
end Go.Proofs
