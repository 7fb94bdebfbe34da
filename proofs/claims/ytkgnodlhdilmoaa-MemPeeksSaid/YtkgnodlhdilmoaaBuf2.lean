/- Numbers as bytes: patinaref04.number, elf.get, patinaref04.read; append of bytes. -/
import Derived.Test.YtkgnodlhdilmoaaBuf
namespace Go.Proofs
open Go Go.RowKit Go.Pat

theorem OwnB.form {w : World} {base : Nat} {v : Value} {l : List UInt8} (h : OwnB w base v l) : ∃ A c, v = .slice A l.length c ∧ Bs w.heap.size w A l := by
  rcases h.2 with ⟨rfl, h0⟩ | ⟨g, cap, cur, rfl, _, hh, hn, hm, hc, ht⟩
  · exact ⟨none, 0, by rw [h0], fun i hi => by rw [bcells_length] at hi; omega⟩
  · exact ⟨_, cap, rfl, Cs.of_own (c := cap) h⟩
theorem OwnB.below {w w' : World} {base : Nat} {v : Value} {l : List UInt8} (h : OwnB w base v l) (hb : Below w.heap.size w w') : OwnB w' base v l := by
  refine ⟨h.1, ?_⟩
  rcases h.2 with h0 | ⟨g, cap, cur, hv, hg, hh, r⟩
  · exact .inl h0
  · exact .inr ⟨g, cap, cur, hv, hg, (hb.block g (lt_of_block hh)).trans hh, r⟩
theorem OwnB.nil (w : World) (base : Nat) : OwnB w base (.slice none 0 0) [] := ⟨rfl, .inl ⟨rfl, rfl⟩⟩
theorem OwnB.alloc {w : World} {base : Nat} {v : Value} {l : List UInt8} (h : OwnB w base v l) (o : Obj) : OwnB (w.alloc o) base v l := h.below ((Below.refl _ _).alloc (Nat.le_refl _) _)
theorem OwnB.base {w : World} {base b2 : Nat} {v : Value} {l : List UInt8} (h : OwnB w base v l) (hb : b2 ≤ base) : OwnB w b2 v l := by
  refine ⟨h.1, ?_⟩
  rcases h.2 with h0 | ⟨g, cap, cur, hv, hg, r⟩
  · exact .inl h0
  · exact .inr ⟨g, cap, cur, hv, by omega, r⟩

theorem wpList_appB {ops : Array Oper} {rest : List Oper} {o : Oper} {a : Act} {Q : Exit → Act → World → Prop} (w : World) (hgd : o.guard = none) (s x : Operand)
    (ho : o.op = .call { callee := .builtin .append, args := #[s, x], argTypes := #[35, 35] }) (base : Nat) (v : Value) (l : List UInt8) (hs : a.eval s = v) (hown : OwnB w base v l)
    (B : Nat) (A : Option Addr) (n c : Nat) (m : List UInt8) (hx : a.eval x = .slice A n c) (hn : m.length = n) (hr : Bs B w A m) (hlen : l.length + n ≤ 140737488355328) (hbase : base ≤ w.heap.size)
    (h : ∀ v' w', OwnB w' base v' (l ++ m) → (∀ W, Below base W w → Below base W w') → (v' = .slice none 0 0 ↔ v = .slice none 0 0 ∧ n = 0) → wpList Try.prog ops Q rest (a.put o.dst v') w') :
    wpList Try.prog ops Q (o :: rest) a w := by
  refine wpList_app w hgd s x 35 ho Try_elU8 base v l.length (bcells l) hs hown B A n c (bcells m) hx (by rw [bcells_length, hn, Nat.mul_one]) hr (bcells_one m) (by simp only [maxLen]; omega) (by rw [Nat.mul_one]; exact hlen) hbase ?_
  intro v' w' h1 hg hnil hat
  refine h v' w' ?_ (fun W hW => own_below hown hW hg hbase) hnil
  unfold OwnB
  rw [List.length_append, hn, bcells_append]
  exact h1

theorem lit_bs (w : World) (x : Int) (c : UInt8) (t : TypeId) (hx : x = (c.toNat : Int)) : Bs (w.alloc (.cells #[.int .u8 x] t)).heap.size (w.alloc (.cells #[.int .u8 x] t)) (some ⟨w.heap.size, 0, none⟩) [c] := by
  subst hx
  intro i hi
  obtain rfl : i = 0 := by simp [bcells] at hi; omega
  refine ⟨w.heap.size, 0, rfl, by simp, ?_⟩
  unfold World.cell?
  rw [show (w.alloc (.cells #[.int .u8 (c.toNat : Int)] t)).heap[w.heap.size]? = some (.cells #[.int .u8 (c.toNat : Int)] t) from Array.getElem?_push_size]
  rfl

set_option maxHeartbeats 1000000 in
theorem rnumber4_any (w : World) (v n : Nat) (hv : v < 18446744073709551616) (hn : n ≤ 8) :
    Calls Try.prog 92 #[.int .u64 v, .int .i64 n] w fun e w' => ∃ x, e = .returned x ∧ OwnB w' w.heap.size x (le n v) ∧ Below w.heap.size w w' := by
  go_enter Try.func92, Try.ntmps92
  go_wp2
  go_loopw [0, 5, 6] (fun q out i wr => ∃ j : Nat, j ≤ n ∧ i = .int .i64 j ∧ q = .int .u64 ((v / 256 ^ j : Nat) : Int) ∧ OwnB wr w.heap.size out (le j v) ∧ Below w.heap.size w wr) (fun _ _ i _ => n - (intOf i).toNat)
  case atStart => exact ⟨0, by omega, rfl, by simp, .nil _ _, Below.refl _ _⟩
  case round =>
    obtain ⟨j, hj, rfl, rfl, hown, hB⟩ := hrel
    by_cases hlt : j < n
    · have hd3 : decide ((j : Int) < (n : Int)) = true := by simp; omega
      obtain ⟨q, hq⟩ : ∃ q, q = v / 256 ^ j := ⟨_, rfl⟩
      have hqv : q < 18446744073709551616 := by rw [hq]; exact Nat.lt_of_le_of_lt (Nat.div_le_self _ _) hv
      rw [← hq]
      have HQ := Lib.hid hq
      clear hq
      go_wp2_with (at_builtin; refine wpList_appB _ rfl _ _ rfl w.heap.size _ (le j v) rfl (hown.alloc _) _ _ 1 1 [UInt8.ofNat q] rfl rfl (lit_bs _ _ _ _ ?hx) (by rw [le_length]; omega) ?hb ?hk)
      case hx => rw [UInt8.toNat_ofNat']; omega
      case hb => simp; have := hB.size; omega
      case hk =>
        intro v' w1 hown' hB' _
        have hB1 := hB' w (hB.alloc hB.size _)
        rw [HQ.out, ← le_succ] at hown'
        clear hB' hown
        go_wp2
        go_roundw
        case rel =>
          refine ⟨j + 1, by omega, by go_num, ?_, hown', hB1⟩
          rw [HQ.out, Nat.pow_succ, ← Nat.div_div_eq_div_mul]
          exact congrArg (Value.int .u64) (by omega)
        case measure => simp [intOf]; omega
    · have hd3 : decide ((j : Int) < (n : Int)) = false := by simp; omega
      obtain rfl : j = n := by omega
      go_wp2
      go_ret
      exact ⟨_, rfl, hown, hB⟩

set_option maxHeartbeats 1000000 in
theorem eget_any (w : World) (A : Option Addr) (cap len at_ n B : Nat) (l : List UInt8) (hr : Bs B w A l) (hl : l.length = len) (hat : at_ + n ≤ len) (hlen : len ≤ 4611686018427387904) (hn : n ≤ 8) :
    Calls Try.prog 60 #[.slice A len cap, .int .i64 at_, .int .i64 n] w fun e w' => e = .returned (.int .u64 (num l at_ n : Nat)) ∧ w = w' := by
  go_enter Try.func60, Try.ntmps60
  go_wp2
  go_loopw [7, 10] (fun q i wr => ∃ j : Nat, j ≤ n ∧ i = .int .i64 j ∧ q = .int .u64 (num l at_ j : Nat) ∧ w = wr) (fun _ i _ => n - (intOf i).toNat)
  case atStart => exact ⟨0, by omega, rfl, rfl, rfl⟩
  case round =>
    obtain ⟨j, hj, rfl, rfl, rfl⟩ := hrel
    by_cases hlt : j < n
    · have hd3 : decide ((j : Int) < (n : Int)) = true := by simp; omega
      obtain ⟨b, o, rfl, hbl, hc⟩ := hr.at_ (at_ + j) (by omega)
      have hjoin := join_byte (num l at_ j) (l[at_ + j]'(by omega)).toNat j (num_lt _ _ _) (UInt8.toNat_lt _) (by omega)
      have HST := Lib.hid (show num l at_ (j + 1) = num l at_ j + (l[at_ + j]'(by omega)).toNat * 256 ^ j by rw [num, List.getD_eq_getElem?_getD, List.getElem?_eq_getElem (show at_ + j < l.length by omega)]; rfl)
      go_wp2
      go_roundw
      case rel => exact ⟨j + 1, by omega, by go_num, by rw [HST.out]; exact congrArg (Value.int .u64) (by rw [Int.natCast_add, Int.natCast_mul, Int.natCast_pow]; rfl), trivial⟩
      case measure => simp [intOf]; omega
    · have hd3 : decide ((j : Int) < (n : Int)) = false := by simp; omega
      obtain rfl : j = n := by omega
      go_wp2
      go_ret
      exact ⟨rfl, rfl⟩

theorem num_front (l : List UInt8) (a k : Nat) : num l a (k + 1) = num l (a + 1) k * 256 + (l.getD a 0).toNat := by
  induction k with
  | zero => simp [num]
  | succ k ih =>
    rw [num, ih, num, Nat.pow_succ, show a + 1 + k = a + (k + 1) by omega, Nat.add_mul]
    rw [← Nat.mul_assoc]
    omega

set_option maxHeartbeats 1000000 in
theorem rread4_any (w : World) (A : Option Addr) (cap len at_ n B : Nat) (l : List UInt8) (hr : Bs B w A l) (hl : l.length = len) (hat : at_ + n ≤ len) (hlen : len ≤ 140737488355328) (hn : n ≤ 8) :
    Calls Try.prog 63 #[.slice A len cap, .int .i64 at_, .int .i64 n] w fun e w' => e = .returned (.int .u64 (num l at_ n : Nat)) ∧ w = w' := by
  go_enter Try.func63, Try.ntmps63
  go_wp2
  go_loopw [7, 8] (fun q i wr => ∃ r : Nat, r ≤ n ∧ i = .int .i64 ((r : Int) - 1) ∧ q = .int .u64 (num l (at_ + r) (n - r) : Nat) ∧ w = wr) (fun _ i _ => (intOf i + 1).toNat)
  case atStart => exact ⟨n, by omega, rfl, by simp [num], rfl⟩
  case round =>
    obtain ⟨r, hrn, rfl, rfl, rfl⟩ := hrel
    cases r with
    | succ r =>
      rw [show ((r + 1 : Nat) : Int) - 1 = (r : Int) by omega]
      obtain ⟨b, o, rfl, hbl, hc⟩ := hr.at_ (at_ + r) (by omega)
      have hby := UInt8.toNat_lt (l[at_ + r]'(by omega))
      obtain ⟨q, hq⟩ : ∃ q, q = num l (at_ + (r + 1)) (n - (r + 1)) := ⟨_, rfl⟩
      have hqv : q * 256 ≤ 18446744073709551615 - 255 := by
        have h1 := num_lt l (at_ + (r + 1)) (n - (r + 1))
        have h2 : 256 ^ (n - (r + 1)) ≤ 256 ^ 7 := Nat.pow_le_pow_right (by omega) (by omega)
        rw [hq]
        omega
      have hst : num l (at_ + r) (n - r) = q * 256 + (l[at_ + r]'(by omega)).toNat := by
        rw [show n - r = (n - (r + 1)) + 1 by omega, num_front, hq, show at_ + r + 1 = at_ + (r + 1) by omega, List.getD_eq_getElem?_getD, List.getElem?_eq_getElem (show at_ + r < l.length by omega)]
        rfl
      rw [← hq]
      have HST := Lib.hid hst
      clear hst hq
      go_wp2
      go_roundw
      case rel => exact ⟨r, by omega, by go_num, by rw [HST.out]; exact congrArg (Value.int .u64) (by omega), trivial⟩
      case measure => simp [intOf]
    | zero =>
      rw [show ((0 : Nat) : Int) - 1 = -1 by omega]
      go_wp2
      go_ret
      exact ⟨rfl, rfl⟩
end Go.Proofs
