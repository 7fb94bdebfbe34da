/- patinalaw03.CpuAlus: the walk. -/
import Derived.Test.YtemngapfnkokiaaDoorSmall3
namespace Go.Proofs
open Go Go.RowKit Go.Pat
theorem alus_same (z : Int) (a b : Nat) (ha : a < 18446744073709551616) (hb : b < 18446744073709551616) : ∃ X E : Int,
    (∀ w, Calls Tryd.prog 24 #[.int .i64 z, .int .u64 a, .int .u64 b] w fun e w' => e = .returned (.tuple #[.int .u64 X, .int .i64 E]) ∧ w' = w) ∧
    (∀ w : World, Calls Tryd.prog 15 #[.int .i64 z, .int .u64 a, .int .u64 b] w fun e w' => e = .returned (.tuple #[.int .u64 X, .int .i64 E]) ∧ Below w.heap.size w w') := by
  by_cases h : z < 22 ∨ 62 < z
  · refine ⟨0, 1, fun w => cAlu_out z a b h w, fun w => (rAlu3_out z a b h w).mono ?_⟩
    rintro e w' ⟨rfl, rfl⟩
    exact ⟨rfl, Below.refl _ _⟩
  · obtain ⟨op, rfl⟩ : ∃ op : Nat, z = op := ⟨z.toNat, by omega⟩
    exact ⟨aluV op a b, 0, fun w => cAlu_in op a b (by omega) (by omega) ha hb w, fun w => rAlu3_in op a b (by omega) (by omega) ha hb w⟩
set_option maxRecDepth 20000 in
set_option maxHeartbeats 16000000 in
theorem CpuAlus_any (z : Int) (a b : Nat) (ha : a < 18446744073709551616) (hb : b < 18446744073709551616) (w : World) (hR : RvRows w) :
    Calls Tryd.prog 7 #[.int .i64 z, .int .u64 a, .int .u64 b] w fun e w' => e = .returned (.bool true) ∧ Below w.heap.size w w' := by
  obtain ⟨X, E, hc, hr⟩ := alus_same z a b ha hb
  obtain ⟨T, G, hct, hrt⟩ : ∃ (T : Bool) (G : Int), (∀ w, Calls Tryd.prog 25 #[.int .i64 z, .int .u64 a, .int .u64 b] w fun e w' => e = .returned (.tuple #[.bool T, .int .i64 G]) ∧ w' = w) ∧
      (∀ w, Calls Tryd.prog 26 #[.int .i64 z, .int .u64 a, .int .u64 b] w fun e w' => e = .returned (.tuple #[.bool T, .int .i64 G]) ∧ w' = w) :=
    ⟨_, _, fun w => cTaken_any z a b w, fun w => rTaken3_any z a b w⟩
  have tX : (X == X) = true := by simp
  have tE : (E == E) = true := by simp
  have tT : (T == T) = true := by simp
  have tG : (G == G) = true := by simp
  have H := Lib.hid (And.intro hc (And.intro hr (And.intro hct (And.intro hrt hR))))
  clear hc hr hct hrt hR ha hb
  go_enter Tryd.func7, Tryd.ntmps7
  go_wp2_with (go_at_call 24; refine (H.out.1 _).mono ?_; rintro e w' ⟨rfl, rfl⟩)
  refine Calls.mono (H.out.2.1 _) ?_
  rintro e w1 ⟨rfl, hB1⟩
  go_wp2_with (first
    | (go_at_call 25; refine (H.out.2.2.1 _).mono ?_; rintro e w' ⟨rfl, rfl⟩)
    | (go_at_call 26; refine (H.out.2.2.2.1 _).mono ?_; rintro e w' ⟨rfl, rfl⟩))
  refine Calls.mono (small3_any _ (rvRows_below H.out.2.2.2.2 hB1)) ?_
  rintro e w2 ⟨rfl, hB2⟩
  go_wp2
  go_ret
  exact ⟨rfl, hB1.trans (hB2.mono hB1.size)⟩
end Go.Proofs
