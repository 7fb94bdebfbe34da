/- (*Mem).number, Load, Fetch. -/
import Derived.Test.YtkgnodlhdilmoaaMemA
namespace Go.Pat
open Go Go.RowKit

def byteM (fs : List Fr) (a : Nat) : Nat := match pageOf fs a with
  | some f => (f.data.getD (a % 4096) 0).toNat
  | none => 0
def numM (fs : List Fr) (at_ : Nat) : Nat → Nat
  | 0 => 0
  | k + 1 => numM fs at_ k + byteM fs (at_ + k) * 256 ^ k
theorem byteM_lt (fs : List Fr) (a : Nat) : byteM fs a < 256 := by
  unfold byteM
  split
  · exact UInt8.toNat_lt _
  · omega
theorem numM_lt (fs : List Fr) (at_ k : Nat) : numM fs at_ k < 256 ^ k := by
  induction k with
  | zero => simp [numM]
  | succ k ih =>
    have := byteM_lt fs (at_ + k)
    have h2 : byteM fs (at_ + k) * 256 ^ k ≤ 255 * 256 ^ k := Nat.mul_le_mul_right _ (by omega)
    simp only [numM, Nat.pow_succ]
    omega

theorem pow_256 (k : Nat) : 256 ^ k = 2 ^ (8 * k) := by
  rw [show (256 : Nat) = 2 ^ 8 from rfl, ← Nat.pow_mul]
theorem pow_256_le {k : Nat} (hk : k < 8) : 256 ^ (k + 1) ≤ 18446744073709551616 :=
  Nat.le_trans (Nat.pow_le_pow_right (by omega) (show k + 1 ≤ 8 by omega)) (by decide)
theorem join_byte (a b k : Nat) (ha : a < 256 ^ k) (hb : b < 256) (hk : k < 8) :
    bits BinOp.or IntKind.u64 (a : Int) (IntKind.u64.wrap (IntKind.u64.wrap (b : Int) * 2 ^ (8 * k))) = ((a + b * 256 ^ k : Nat) : Int) := by
  have h1 := pow_256_le hk
  have h2 : b * 256 ^ k ≤ 255 * 256 ^ k := Nat.mul_le_mul_right _ (by omega)
  have h3 : 256 ^ (k + 1) = 256 ^ k * 256 := Nat.pow_succ ..
  have e0 : IntKind.u64.wrap (b : Int) = (b : Int) := by rw [IntKind.wrap_u64]; omega
  have e1 : (b : Int) * 2 ^ (8 * k) = ((b * 256 ^ k : Nat) : Int) := by rw [pow_256]; push_cast; rfl
  have e2 : IntKind.u64.wrap ((b * 256 ^ k : Nat) : Int) = ((b * 256 ^ k : Nat) : Int) := by rw [IntKind.wrap_u64]; omega
  rw [e0, e1, e2, u64_or_nat a _ (by omega) (by omega), Nat.or_comm, nat_join (8 * k) (b * 256 ^ k) a (by rw [pow_256]; exact Nat.mul_mod_left _ _) (by rw [← pow_256]; exact ha)]
  congr 1
  omega
end Go.Pat
namespace Go.Proofs
open Go Go.RowKit Go.Pat

set_option maxHeartbeats 1000000 in
theorem number_any (w : World) (p mb : Nat) (fs : List Fr) (hM : MemAt w p mb fs) (at_ n : Nat) (hat : at_ + n ≤ 281474976710656) (hn : n ≤ 8) (hp : ∀ i, i < n → ∃ f, pageOf fs (at_ + i) = some f) :
    Calls Try.prog 59 #[.pointer (some ⟨p, 0, none⟩), .int .u64 at_, .int .i64 n] w fun e w' => e = .returned (.int .u64 (numM fs at_ n)) ∧ Below w.heap.size w w' := by
  go_enter Try.func59, Try.ntmps59
  go_wp2
  go_loopw [13, 7] (fun i v wr => ∃ k : Nat, k ≤ n ∧ i = .int .i64 k ∧ v = .int .u64 (numM fs at_ k) ∧ Below w.heap.size w wr) (fun i _ _ => n - (intOf i).toNat)
  case atStart => exact ⟨0, by omega, rfl, rfl, Below.refl _ _⟩
  case round =>
    obtain ⟨k, hk, rfl, rfl, hB⟩ := hrel
    have hM' := hM.below hM.lt hB
    by_cases hlt : k < n
    · have hd3 : decide ((k : Int) < (n : Int)) = true := by simp; omega
      obtain ⟨f, hf⟩ := hp k hlt
      have hF' : FrIn wr f := hM'.pages f (List.mem_of_find?_eq_some hf)
      have hi : (at_ + k) % 4096 < f.data.length := by rw [hF'.1]; omega
      have hbl : f.blk < wr.heap.size := by obtain ⟨_, _, _, cur, h4, _⟩ := hF'; exact lt_of_block h4
      have hcl : ∀ W o1 : _, Below wr.heap.size wr W → ((W.alloc o1).cell? ⟨f.blk, (at_ + k) % 4096, none⟩ = some (.int .u8 ((f.data[(at_ + k) % 4096]).toNat : Int))) := by
        intro W o1 hb
        rw [(hb.alloc hb.size o1).cell (p := ⟨f.blk, _, none⟩) hbl]
        exact hF'.cell _ hi
      go_wp2_with (go_at_call 76; refine (page_hit _ p mb fs hM' (at_ + k) (by omega) f hf).mono ?_; rintro e w' ⟨rfl, hb⟩; have hcl' := fun o => hcl w' o hb)
      have hby : (f.data[(at_ + k) % 4096]).toNat = byteM fs (at_ + k) := by simp [byteM, hf, List.getD, hi]
      have hjb := join_byte (numM fs at_ k) ((f.data[(at_ + k) % 4096]).toNat) k (numM_lt _ _ _) (UInt8.toNat_lt _) (by omega)
      go_roundw
      case rel => exact ⟨k + 1, by omega, by go_num, by rw [hjb, hby]; rfl, (hB.trans (hb.mono hB.size)).alloc (by have := hb.size; have := hB.size; omega) _⟩
      case measure => simp [intOf]; omega
    · have hd3 : decide ((k : Int) < (n : Int)) = false := by simp; omega
      obtain rfl : n = k := by omega
      go_wp2
      go_ret
      exact ⟨rfl, hB⟩

theorem asked_ok {fs : List Fr} {at_ n : Nat} {perm : Int} (h : askTo fs at_ perm n = 0) : ∀ i, i < n → ∃ f, pageOf fs (at_ + i) = some f ∧ pOK f.perm perm = true := by
  induction n with
  | zero => intro i hi; omega
  | succ n ih =>
    simp only [askTo] at h
    split at h
    · cases h
    · split at h
      · cases h
      · rename_i f hf
        split at h
        · rename_i hp
          intro i hi
          by_cases e : i = n
          · subst e; exact ⟨f, hf, hp⟩
          · exact ih h i (by omega)
        · cases h
end Go.Proofs
