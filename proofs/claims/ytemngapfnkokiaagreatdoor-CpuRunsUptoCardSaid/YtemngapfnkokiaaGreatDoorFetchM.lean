/- (*Mem).Fetch. -/
import Derived.Test.YtemngapfnkokiaaGreatDoorCpu
import Derived.BigQuiet
namespace Go.Proofs
open Go Go.RowKit Go.Pat
theorem asked_zint (w : World) (p mb : Nat) (fs : List Fr) (hM : MemAt w p mb fs) (at_ n : Nat) (z : Int) (hz : z = (n : Int)) (perm : Int) (hat : at_ < 18446744073709551616) (hn : n < 1000000) :
    Calls Tryz.prog 63 #[.pointer (some ⟨p, 0, none⟩), .int .u64 at_, .int .i64 z, .int .i64 perm] w fun e w' => e = .returned (.int .i64 (askedM fs at_ n perm)) ∧ Below w.heap.size w w' := by
  subst hz
  exact asked_all w p mb fs hM at_ n perm hat hn
theorem number_zint (w : World) (p mb : Nat) (fs : List Fr) (hM : MemAt w p mb fs) (at_ n : Nat) (z : Int) (hz : z = (n : Int)) (hat : at_ + n ≤ 281474976710656) (hn : n ≤ 8) (hp : ∀ i, i < n → ∃ f, pageOf fs (at_ + i) = some f) :
    Calls Tryz.prog 64 #[.pointer (some ⟨p, 0, none⟩), .int .u64 at_, .int .i64 z] w fun e w' => e = .returned (.int .u64 (numM fs at_ n)) ∧ Below w.heap.size w w' := by
  subst hz
  exact number_any w p mb fs hM at_ n hat hn hp

set_option maxHeartbeats 4000000 in
theorem Fetch_any (w : World) (p mb : Nat) (fs : List Fr) (hM : MemAt w p mb fs) (at_ : Nat) (hat : at_ < 18446744073709551616) :
    Calls Tryz.prog 46 #[.pointer (some ⟨p, 0, none⟩), .int .u64 at_] w fun e w' => e = .returned (.tuple #[.int .u32 ((fetchM fs at_).1 : Nat), .int .i64 (fetchM fs at_).2]) ∧ Below w.heap.size w w' := by
  by_cases hbad : at_ % 4 ≠ 0 ∨ 281474976710656 ≤ at_
  · have HF := Lib.hid (show fetchM fs at_ = (0, 1) by unfold fetchM; rw [if_pos hbad])
    by_cases h4 : at_ % 4 ≠ 0
    · have t1 : ((at_ : Int) % 4 != 0) = true := by simp only [bne_iff_ne]; omega
      clear hbad h4
      go_enter Tryz.func46, Tryz.ntmps46
      go_wp2
      go_ret2
      exact ⟨by rw [HF.out]; rfl, Below.refl _ _⟩
    · have t1 : ((at_ : Int) % 4 != 0) = false := by simp only [bne_eq_false_iff_eq]; omega
      have t2 : decide ((281474976710656 : Int) ≤ (at_ : Int)) = true := decide_eq_true (by omega)
      clear hbad h4
      go_enter Tryz.func46, Tryz.ntmps46
      go_wp2
      go_ret2
      exact ⟨by rw [HF.out]; rfl, Below.refl _ _⟩
  · have t1 : ((at_ : Int) % 4 != 0) = false := by simp only [bne_eq_false_iff_eq]; omega
    have t2 : decide ((281474976710656 : Int) ≤ (at_ : Int)) = false := decide_eq_false (by omega)
    by_cases h0 : askedM fs at_ 4 1 = 0
    · have HF := Lib.hid (show fetchM fs at_ = (numM fs at_ 4, 0) by unfold fetchM; rw [if_neg hbad, if_pos h0])
      obtain ⟨z1, z2, z3⟩ := asked_zero h0
      have h0' : (askedM fs at_ 4 1 != 0) = false := by simp [h0]
      have H3 := Lib.hid (fun i (hi : i < 4) => (z3 i hi).imp fun _ h => h.1)
      obtain ⟨q, hq⟩ : ∃ q, q = numM fs at_ 4 := ⟨_, rfl⟩
      have hql : q < 4294967296 := by rw [hq]; exact numM_lt fs at_ 4
      have HQ := Lib.hid hq
      clear h0 z3 hbad hq
      go_enter Tryz.func46, Tryz.ntmps46
      go_wp2_with fail
      refine Calls.mono (asked_zint w p mb fs hM at_ 4 _ (by rfl) 1 hat (by decide)) ?_
      rintro e w' ⟨rfl, hb⟩
      go_wp2_with fail
      refine Calls.mono (number_zint w' p mb fs (hM.below hM.lt hb) at_ 4 _ (by rfl) z1 (by decide) H3.out) ?_
      rintro e w2 ⟨rfl, hb2⟩
      rw [← HQ.out]
      go_wp2
      go_ret2
      exact ⟨by rw [HF.out, ← HQ.out]; rfl, hb.trans (hb2.mono hb.size)⟩
    · have HF := Lib.hid (show fetchM fs at_ = (0, askedM fs at_ 4 1) by unfold fetchM; rw [if_neg hbad, if_neg h0])
      have h0' : (askedM fs at_ 4 1 != 0) = true := by simp [h0]
      clear h0 hbad
      go_enter Tryz.func46, Tryz.ntmps46
      go_wp2_with fail
      refine Calls.mono (asked_zint w p mb fs hM at_ 4 _ (by rfl) 1 hat (by decide)) ?_
      rintro e w' ⟨rfl, hb⟩
      go_wp2
      go_ret2
      exact ⟨by rw [HF.out]; rfl, hb⟩

end Go.Proofs
