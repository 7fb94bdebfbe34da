/- patina/asm.raw: the bytes of an item that is no instruction. -/
import Derived.Test.YtemngapfnkokiaaDoorLittle
import Derived.Test.YtemngapfnkokiaaDoorStepP
import Derived.OwnWalk
namespace Go.Pat
open Go Go.RowKit
def rawM (x : It) : List UInt8 := if x.k = 8 then le 8 (wrN x.n) else if x.k = 9 then List.replicate x.n.toNat 0 else []
theorem made_zero (n : Nat) : (madeCells #[.int .u8 0] n).toList = bcells (List.replicate n 0) := by
  apply List.ext_getElem?
  intro i
  rw [Array.getElem?_toList]
  by_cases h : i < n
  · unfold madeCells bcells
    simp [h, Nat.mod_one, bval]
  · unfold madeCells bcells
    simp [h]
end Go.Pat
namespace Go.Proofs
open Go Go.RowKit Go.Pat
def RawTo (l : List UInt8) (w : World) (e : Ending) (w' : World) : Prop := ∃ v, e = .returned v ∧ OwnB w' w.heap.size v l ∧ Below w.heap.size w w'
set_option maxHeartbeats 1000000 in
theorem araw_any (x : It) (h9 : x.k = 9 → 0 ≤ x.n ∧ x.n ≤ 1048576) (w : World) : Calls Tryd.prog 48 #[.agg x.cs] w (RawTo (rawM x) w) := by
  obtain ⟨k, s, op, rd, a, b, n⟩ := x
  show Calls Tryd.prog 48 #[.agg #[.int .i64 k, .string s, .int .i64 op, .int .i64 rd, .int .i64 a, .int .i64 b, .int .i64 n]] w (RawTo (rawM ⟨k, s, op, rd, a, b, n⟩) w)
  simp only at h9
  by_cases h8 : k = 8
  · subst h8
    have HV := Lib.hid (show rawM ⟨8, s, op, rd, a, b, n⟩ = le 8 (wrN n) from rfl)
    obtain ⟨y, hy⟩ : ∃ y, wrN n = y := ⟨_, rfl⟩
    have hyu : IntKind.u64.wrap n = (y : Int) := by rw [← hy, wrN_is]
    have hyl : y < 18446744073709551616 := by rw [← hy]; exact wrN_lt n
    rw [hy] at HV
    clear h9 hy
    go_enter Tryd.func48, Tryd.ntmps48
    go_wp2_with fail
    refine Calls.mono (alittle_any _ w.heap.size (.slice none 0 0) [] y 8 (OwnB.nil _ _) (form1 w _).size hyl (by decide) (by decide)) ?_
    rintro e w2 ⟨v, rfl, hown, hB, _, _, _⟩
    have HP := Lib.hid (And.intro hown (hB w (form1 w _)))
    clear hown hB
    go_wp2
    go_ret
    exact ⟨_, rfl, by rw [HV.out]; exact HP.out.1, HP.out.2⟩
  · have t8 : (k == 8) = false := by simpa using h8
    by_cases h : k = 9
    · subst h
      obtain ⟨a0, a1⟩ := h9 rfl
      obtain ⟨m, rfl⟩ : ∃ m : Nat, n = m := ⟨n.toNat, by omega⟩
      have HV := Lib.hid (show rawM ⟨9, s, op, rd, a, b, (m : Int)⟩ = List.replicate m 0 by unfold rawM; rw [if_neg h8, if_pos rfl, Int.toNat_natCast])
      clear h9 h8
      obtain ⟨i, hi, hz0, hz1, hz2⟩ := info_parts Tryd_info_u8
      go_enter Tryd.func48, Tryd.ntmps48
      go_wp2_with (at_make; refine wpList_make_full _ rfl _ _ _ rfl w.heap.size _ i (.int .u8 0) 1 Tryd.underlying42 hi hz0 hz1 .i64 .i64 (m : Int) (m : Int) m rfl rfl rfl rfl (by rw [hz2]; omega) (by unfold maxLen; omega) (form1 w _).size ?_; intro w2 hown hg)
      have hB2 : Below w.heap.size w w2 := own_below (OwnB.nil (w.alloc (.cells #[.int .i64 9, .string s, .int .i64 op, .int .i64 rd, .int .i64 a, .int .i64 b, .int .i64 m] 61)) w.heap.size) (form1 w _) hg (form1 w _).size
      go_ret
      refine ⟨_, rfl, ?_, hB2⟩
      rw [HV.out]
      unfold OwnB
      rw [List.length_replicate, ← made_zero]
      have hc : (Value.int IntKind.u8 0).cells = #[.int .u8 0] := rfl
      rw [hc, Nat.mul_one, World.size_alloc] at hown
      exact hown
    · have t9 : (k == 9) = false := by simpa using h
      have HV := Lib.hid (show rawM ⟨k, s, op, rd, a, b, n⟩ = [] by unfold rawM; rw [if_neg h8, if_neg h])
      clear h9 h8 h
      go_enter Tryd.func48, Tryd.ntmps48
      go_wp2
      go_ret
      exact ⟨_, rfl, by rw [HV.out]; exact OwnB.nil _ _, form1 w _⟩
end Go.Proofs
