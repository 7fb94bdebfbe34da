/- (*Mem).Peek: bytes that are looked at. -/
import Derived.Test.YtkgnodlhdilmoaaLoadP
import Derived.Test.YtkgnodlhdilmoaaBuf2
namespace Go.Pat
open Go Go.RowKit
theorem peekL_length (fs : List Fr) (a n : Nat) : (peekL fs a n).length = n := by simp [peekL]
theorem peekL_succ (fs : List Fr) (a n : Nat) : peekL fs a (n + 1) = peekL fs a n ++ [UInt8.ofNat (byteM fs (a + n))] := by simp [peekL, List.range_succ]
end Go.Pat
namespace Go.Proofs
open Go Go.RowKit Go.Pat

theorem lit_bg (w : World) (x : Int) (c : UInt8) (t : TypeId) (g : Nat) (hg : g = w.heap.size) (hx : x = (c.toNat : Int)) : Bs (w.alloc (.cells #[.int .u8 x] t)).heap.size (w.alloc (.cells #[.int .u8 x] t)) (some ⟨g, 0, none⟩) [c] := by
  subst hg
  exact lit_bs w x c t hx
set_option maxRecDepth 20000 in
set_option maxHeartbeats 2000000 in
theorem Peek_any (w : World) (p mb : Nat) (fs : List Fr) (hM : MemAt w p mb fs) (at_ n : Nat) (hat : at_ < 18446744073709551616) (hn : n ≤ 65536) :
    Calls Try.prog 38 #[.pointer (some ⟨p, 0, none⟩), .int .u64 at_, .int .i64 n] w fun e w' =>
      (askedM fs at_ n 0 = 0 ∧ ∃ v, e = .returned (.tuple #[v, .int .i64 0]) ∧ OwnB w' w.heap.size v (peekL fs at_ n) ∧ Below w.heap.size w w') ∨
      (askedM fs at_ n 0 ≠ 0 ∧ e = .returned (.tuple #[.slice none 0 0, .int .i64 (askedM fs at_ n 0)]) ∧ Below w.heap.size w w') := by
  have d1 : decide ((n : Int) < 0) = false := by simp
  have d2 : decide ((65536 : Int) < (n : Int)) = false := decide_eq_false (by omega)
  go_enter Try.func38, Try.ntmps38
  go_wp2_with fail
  refine Calls.mono (asked_all w p mb fs hM at_ n 0 hat (by omega)) ?_
  rintro e w1 ⟨rfl, hB1⟩
  have hM1 := hM.below hM.lt hB1
  by_cases hz : askedM fs at_ n 0 = 0
  · obtain ⟨hle, hlt, hpg⟩ := asked_zero hz
    have t1 : (askedM fs at_ n 0 != 0) = false := by rw [hz]; rfl
    have HZ := Lib.hid hz
    clear hz
    go_wp2_with fail
    go_loopw [9, 28] (fun out i wr => ∃ k : Nat, k ≤ n ∧ i = .int .u64 k ∧ OwnB wr w.heap.size out (peekL fs at_ k) ∧ Below w.heap.size w wr) (fun _ i _ => n - (intOf i).toNat)
    case atStart => exact ⟨0, by omega, rfl, .nil _ _, hB1⟩
    case round =>
      obtain ⟨k, hk, rfl, hown, hB⟩ := hrel
      have hM' := hM.below hM.lt hB
      by_cases hlk : k < n
      · have hd3 : decide ((k : Int) < (n : Int)) = true := by simp; omega
        have hd4 : decide (k < n) = true := decide_eq_true hlk
        obtain ⟨f, hf, -⟩ := hpg k hlk
        have hF' : FrIn wr f := hM'.pages f (List.mem_of_find?_eq_some hf)
        have hi : (at_ + k) % 4096 < f.data.length := by rw [hF'.1]; omega
        have hbl : f.blk < wr.heap.size := by obtain ⟨_, _, _, cur, h4, _⟩ := hF'; exact lt_of_block h4
        have hcl : ∀ W o1 : _, Below wr.heap.size wr W → ((W.alloc o1).cell? ⟨f.blk, (at_ + k) % 4096, none⟩ = some (.int .u8 ((f.data[(at_ + k) % 4096]).toNat : Int))) := by
          intro W o1 hb
          rw [(hb.alloc hb.size o1).cell (p := ⟨f.blk, _, none⟩) hbl]
          exact hF'.cell _ hi
        have hby : UInt8.ofNat (byteM fs (at_ + k)) = f.data[(at_ + k) % 4096] := by simp [byteM, hf, List.getD, hi]
        have HS := Lib.hid (peekL_succ fs at_ k)
        rw [hby] at HS
        go_wp2_with fail
        refine (page_hit _ p mb fs hM' (at_ + k) (by omega) f hf).mono ?_
        rintro e w' ⟨rfl, hb⟩
        have hcl' := fun o => hcl w' o hb
        have hown1 := hown.below hb
        have hB1' := hB.trans (hb.mono hB.size)
        go_wp2_with (at_builtin; refine wpList_appB _ rfl _ _ rfl w.heap.size _ (peekL fs at_ k) rfl ((hown1.alloc _).alloc _) _ _ 1 1 [f.data[(at_ + k) % 4096]] rfl rfl (lit_bg _ _ _ _ _ (by rw [World.size_alloc]) (by rfl)) ?hl ?hb ?hk)
        case hl => rw [peekL_length]; omega
        case hb => simp only [World.size_alloc]; have := hB1'.size; omega
        case hk =>
          intro v' w1 hown' hB' _
          have hB2 := hB' w ((hB1'.alloc hB1'.size _).alloc (by rw [World.size_alloc]; exact Nat.le_succ_of_le hB1'.size) _)
          rw [← HS.out] at hown'
          clear hB' hown
          go_wp2
          go_roundw
          case rel => exact ⟨k + 1, by omega, by go_num, hown', hB2⟩
          case measure => simp [intOf]; omega
      · have hd3 : decide ((k : Int) < (n : Int)) = false := by simp; omega
        have hd4 : decide (k < n) = false := decide_eq_false (by omega)
        obtain rfl : k = n := by omega
        go_wp2
        go_ret2
        exact .inl ⟨HZ.out, _, rfl, hown, hB⟩
  · have t1 : (askedM fs at_ n 0 != 0) = true := by simpa using hz
    have HZ := Lib.hid hz
    clear hz
    go_wp2
    go_ret2
    exact .inr ⟨HZ.out, rfl, hB1⟩
end Go.Proofs
