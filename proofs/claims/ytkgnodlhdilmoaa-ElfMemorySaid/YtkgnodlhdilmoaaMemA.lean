/- (*Mem).asked: what is wrong with a use of bytes. -/
import Derived.Test.YtkgnodlhdilmoaaMemW
import Derived.BigQuiet
import Derived.Lib.Hide
namespace Go.Pat
open Go Go.RowKit

/-- may the page be used so? -/
def pOK (q p : Int) : Bool := bits BinOp.and .i64 q p == p

def pageOf (fs : List Fr) (a : Nat) : Option Fr := frAt fs (a / 4096 * 4096)

/-- the first k bytes from a place on: 20: one is not there; 21: one may not be used so; 0. -/
def askTo (fs : List Fr) (at_ : Nat) (perm : Int) : Nat → Int
  | 0 => 0
  | k + 1 => if askTo fs at_ perm k = 20 then 20 else match pageOf fs (at_ + k) with
    | none => 20
    | some f => if pOK f.perm perm then askTo fs at_ perm k else 21

def askedM (fs : List Fr) (at_ n : Nat) (perm : Int) : Int :=
  if 281474976710656 ≤ at_ ∨ 281474976710656 - at_ < n then 1 else askTo fs at_ perm n

theorem askTo_range (fs : List Fr) (at_ : Nat) (perm : Int) (k : Nat) : askTo fs at_ perm k = 0 ∨ askTo fs at_ perm k = 20 ∨ askTo fs at_ perm k = 21 := by
  induction k with
  | zero => exact .inl rfl
  | succ k ih =>
    simp only [askTo]
    split
    · exact .inr (.inl rfl)
    · split
      · exact .inr (.inl rfl)
      · split
        · exact ih
        · exact .inr (.inr rfl)
theorem askTo_20 (fs : List Fr) (at_ : Nat) (perm : Int) (k j : Nat) (h : askTo fs at_ perm k = 20) (hj : k ≤ j) : askTo fs at_ perm j = 20 := by
  induction j with
  | zero => obtain rfl : k = 0 := by omega
            exact h
  | succ j ih =>
    by_cases hk : k = j + 1
    · subst hk; exact h
    · simp [askTo, ih (by omega)]
end Go.Pat
namespace Go.Proofs
open Go Go.RowKit Go.Pat

set_option maxRecDepth 100000 in
set_option maxHeartbeats 400000 in
theorem asked_arg (w : World) (p : Value) (at_ n : Nat) (perm : Int) (hat : at_ < 18446744073709551616) (hn : n < 1000000) (h : 281474976710656 ≤ at_ ∨ 281474976710656 - at_ < n) :
    Calls Try.prog 58 #[p, .int .u64 at_, .int .i64 n, .int .i64 perm] w fun e w' => e = .returned (.int .i64 1) ∧ w = w' := by
  by_cases h1 : 281474976710656 ≤ at_
  · have hd : decide ((281474976710656 : Int) ≤ (at_ : Int)) = true := by simp; omega
    clear h
    go_enter Try.func58, Try.ntmps58
    go_wp2
    go_ret
    exact ⟨rfl, rfl⟩
  · have hd : decide ((281474976710656 : Int) ≤ (at_ : Int)) = false := by simp; omega
    have hd2 : decide ((281474976710656 : Int) - (at_ : Int) < (n : Int)) = true := by simp; omega
    clear h
    go_enter Try.func58, Try.ntmps58
    go_wp2
    go_ret
    exact ⟨rfl, rfl⟩

set_option maxHeartbeats 1000000 in
theorem asked_any (w : World) (p mb : Nat) (fs : List Fr) (hM : MemAt w p mb fs) (at_ n : Nat) (perm : Int) (hat : at_ < 18446744073709551616) (hn : n < 1000000) (h : ¬ (281474976710656 ≤ at_ ∨ 281474976710656 - at_ < n)) :
    Calls Try.prog 58 #[.pointer (some ⟨p, 0, none⟩), .int .u64 at_, .int .i64 n, .int .i64 perm] w fun e w' => e = .returned (.int .i64 (askTo fs at_ perm n)) ∧ Below w.heap.size w w' := by
  have h1 : at_ + n ≤ 281474976710656 := by omega
  have hd : decide ((281474976710656 : Int) ≤ (at_ : Int)) = false := by simp; omega
  have hd2 : decide ((281474976710656 : Int) - (at_ : Int) < (n : Int)) = false := by simp; omega
  clear h
  go_enter Try.func58, Try.ntmps58
  go_wp2
  go_loopw [24, 9] (fun i may wr => ∃ k : Nat, k ≤ n ∧ i = .int .u64 k ∧ may = .int .i64 (askTo fs at_ perm k) ∧ askTo fs at_ perm k ≠ 20 ∧ Below w.heap.size w wr) (fun i _ _ => n - (intOf i).toNat)
  case atStart => exact ⟨0, by omega, rfl, rfl, by simp [askTo], Below.refl _ _⟩
  case round =>
    obtain ⟨k, hk, rfl, rfl, hne, hB⟩ := hrel
    have hM' := hM.below hM.lt hB
    by_cases hlt : k < n
    · have hd3 : decide ((k : Int) < (n : Int)) = true := by simp; omega
      cases hf : pageOf fs (at_ + k) with
      | none =>
        have hfin : askTo fs at_ perm n = 20 := askTo_20 fs at_ perm (k + 1) n (by simp [askTo, hf]) (by omega)
        have HF := Lib.hid hfin
        clear hfin hne
        go_wp2_with (go_at_call 76; refine (page_miss _ p mb fs hM' (at_ + k) (by omega) hf).mono ?_; rintro e w' ⟨rfl, hb⟩)
        go_ret
        refine ⟨by rw [HF.out]; rfl, (hB.trans (hb.mono hB.size)).alloc (by have := hb.size; have := hB.size; omega) _⟩
      | some f =>
        cases hp : pOK f.perm perm with
        | true =>
          have hp2 : (bits BinOp.and IntKind.i64 f.perm perm != perm) = false := by unfold pOK at hp; simp [bne, hp]
          have hnx : askTo fs at_ perm (k + 1) = askTo fs at_ perm k := by simp [askTo, hf, hp, hne]
          have HN := Lib.hid hnx
          have HE := Lib.hid hne
          clear hp hnx hne
          go_wp2_with (go_at_call 76; refine (page_hit _ p mb fs hM' (at_ + k) (by omega) f hf).mono ?_; rintro e w' ⟨rfl, hb⟩)
          go_roundw
          case rel => exact ⟨k + 1, by omega, by go_num, by rw [HN.out], by rw [HN.out]; exact HE.out, (hB.trans (hb.mono hB.size)).alloc (by have := hb.size; have := hB.size; omega) _⟩
          case measure => simp [intOf]; omega
        | false =>
          have hp2 : (bits BinOp.and IntKind.i64 f.perm perm != perm) = true := by unfold pOK at hp; simp [bne, hp]
          have hnx : askTo fs at_ perm (k + 1) = 21 := by simp [askTo, hf, hp, hne]
          have HN := Lib.hid hnx
          clear hp hnx hne
          go_wp2_with (go_at_call 76; refine (page_hit _ p mb fs hM' (at_ + k) (by omega) f hf).mono ?_; rintro e w' ⟨rfl, hb⟩)
          go_roundw
          case rel => exact ⟨k + 1, by omega, by go_num, by rw [HN.out], by rw [HN.out]; decide, (hB.trans (hb.mono hB.size)).alloc (by have := hb.size; have := hB.size; omega) _⟩
          case measure => simp [intOf]; omega
    · have hd3 : decide ((k : Int) < (n : Int)) = false := by simp; omega
      obtain rfl : n = k := by omega
      clear hne
      go_wp2
      go_ret
      exact ⟨rfl, hB⟩
end Go.Proofs
