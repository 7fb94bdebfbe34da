/- (*Mem).Store at every argument. -/
import Derived.Test.YtemngapfnkokiaaGreatDoorMemTop
namespace Go.Pat
open Go Go.RowKit

/-- what a store leaves. -/
def storeM (fs : List Fr) (at_ v : Nat) (n : Int) : List Fr := if storeE fs at_ n = 0 then storeTo fs at_ v n.toNat else fs
end Go.Pat
namespace Go.Proofs
open Go Go.RowKit Go.Pat

theorem Store_arg (w : World) (p : Value) (at_ v : Nat) (n : Int) (hw : wide n = false) :
    Calls Tryz.prog 50 #[p, .int .u64 at_, .int .i64 n, .int .u64 v] w fun e w' => e = .returned (.int .i64 1) ∧ w = w' := by
  go_enter Tryz.func50, Tryz.ntmps50
  go_wp2_with (go_at_call 70; refine (width_all _ _).mono ?_; rw [hw]; rintro e w' ⟨rfl, rfl⟩)
  go_ret
  exact ⟨rfl, rfl⟩
theorem Store_all (w : World) (p mb : Nat) (fs : List Fr) (hM : MemAt w p mb fs) (at_ v : Nat) (n : Int) (hat : at_ < 18446744073709551616) (hv : v < 18446744073709551616) :
    Calls Tryz.prog 50 #[.pointer (some ⟨p, 0, none⟩), .int .u64 at_, .int .i64 n, .int .u64 v] w fun e w' =>
      e = .returned (.int .i64 (storeE fs at_ n)) ∧ MemAt w' p mb (storeM fs at_ v n) ∧ KeptBut (fun b => b ∈ fs.map (·.blk)) w w' := by
  cases hw : wide n with
  | false =>
    have e1 : storeE fs at_ n = 1 := by simp [storeE, hw]
    refine (Store_arg w _ at_ v n hw).mono ?_
    rintro e w' ⟨rfl, rfl⟩
    exact ⟨by rw [e1], by rw [storeM, e1, if_neg (by decide)]; exact hM, .refl _ _⟩
  | true =>
    obtain ⟨k, rfl, hk⟩ : ∃ k : Nat, n = k ∧ (k ≤ 8) := by
      simp [wide] at hw
      exact ⟨n.toNat, by omega, by omega⟩
    have e1 : storeE fs at_ k = askedM fs at_ k 2 := by simp [storeE, hw]
    by_cases h0 : askedM fs at_ k 2 = 0
    · refine (Store_any w p mb fs hM at_ v k hat hw hk hv h0).mono ?_
      rintro e w' ⟨rfl, h1, h2⟩
      exact ⟨by rw [e1, h0], by rw [storeM, e1, if_pos h0]; exact h1, h2⟩
    · refine (Store_err w p mb fs hM at_ k v hat (by rw [e1]; exact h0)).mono ?_
      rintro e w' ⟨rfl, hB⟩
      exact ⟨rfl, by rw [storeM, e1, if_neg h0]; exact hM.below hM.lt hB, .of_below hB⟩
end Go.Proofs
