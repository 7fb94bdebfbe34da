/- patinalaw10.digits: a number's digits. -/
import Derived.Test.YtlhenglopnipaaaGreatDoorRtRS
namespace Go.Pat
open Go Go.RowKit Go.Proofs
def dgC (q : Nat) : UInt8 := UInt8.ofNat (48 + q % 10)
def strB (l : List UInt8) : ByteArray := ⟨l.toArray⟩
theorem strB_app (a b : List UInt8) : strB a ++ strB b = strB (a ++ b) := by
  apply ByteArray.ext
  apply Array.toList_inj.1
  rw [ByteArray.data_append]
  simp [strB]
theorem wrap64_wrN (n : Int) (h : i64B n) : wrap64 ((wrN n : Nat) : Int) = n := by
  obtain ⟨h1, h2⟩ := h
  unfold wrap64 wrN
  omega
theorem decB_pos (n : Int) (h : i64B n) (h0 : 0 ≤ n) : decB (wrN n) = digF 20 (wrN n) [] := by
  unfold decB
  rw [wrap64_wrN n h, if_neg (by omega), if_neg (by omega), List.nil_append]
theorem decB_neg (n : Int) (h : i64B n) (h0 : n < 0) : decB (wrN n) = 45 :: digF 20 (18446744073709551616 - wrN n) [] := by
  unfold decB
  rw [wrap64_wrN n h, if_pos h0, if_pos h0]
  rfl
theorem digF_len : ∀ (k q : Nat) (acc : List UInt8), (digF k q acc).length ≤ acc.length + k
  | 0, _, _ => Nat.le_refl _
  | k + 1, q, acc => by
    unfold digF
    split
    · rw [List.length_cons]; omega
    · have := digF_len k (q / 10) (UInt8.ofNat (48 + q % 10) :: acc)
      rw [List.length_cons] at this
      omega
theorem decB_len (v : Nat) : (decB v).length ≤ 21 := by
  unfold decB
  have := digF_len 20 (if wrap64 (v : Int) < 0 then 18446744073709551616 - v else v) []
  rw [List.length_append]
  simp only [List.length_nil] at this
  split
  · rename_i h; rw [if_pos h] at this; simp only [List.length_singleton]; omega
  · rename_i h; rw [if_neg h] at this; simp only [List.length_nil]; omega
/-- a loop's state: the next digit stands ahead. -/
structure DgAt (M q : Nat) (s : List UInt8) (f : Nat) : Prop where
  lt : q < 10 ^ (f + 1)
  len : s.length + f ≤ 20
  is : ∃ acc, s = dgC q :: acc ∧ digF (f + 1) q acc = digF 20 M []
theorem DgAt.step {M q f : Nat} {s : List UInt8} (h : DgAt M q s f) (hq : 9 < q) : ∃ g, f = g + 1 ∧ DgAt M (q / 10) (dgC (q / 10) :: s) g := by
  obtain ⟨h1, hl, acc, rfl, h2⟩ := h
  cases f with
  | zero => rw [Nat.zero_add, Nat.pow_one] at h1; omega
  | succ g =>
    refine ⟨g, rfl, ?_, ?_, dgC q :: acc, rfl, ?_⟩
    · rw [Nat.pow_succ] at h1
      omega
    · simp only [List.length_cons] at hl ⊢
      omega
    · rw [← h2]
      conv => rhs; unfold digF
      rw [if_neg (by omega)]
      rfl
theorem DgAt.done {M q f : Nat} {s : List UInt8} (h : DgAt M q s f) (hq : ¬ 9 < q) : s = digF 20 M [] := by
  obtain ⟨h1, -, acc, rfl, h2⟩ := h
  rw [← h2]
  unfold digF
  rw [if_pos (by omega)]
  rfl
theorem DgAt.start (M : Nat) (h : M < 18446744073709551616) : DgAt M M [dgC M] 19 := ⟨by omega, by simp, [], rfl, rfl⟩
end Go.Pat
namespace Go.Proofs
open Go Go.RowKit Go.Pat
theorem conv_one (W : World) (z : Int) (c : UInt8) (hz : z = (c.toNat : Int)) : (convert 35 9 (.slice (some ⟨W.heap.size, 0, none⟩) 1 1)).run Tryz.prog (W.alloc (.cells #[.int .u8 z] 5)) = .ok (.string (strB [c])) (W.alloc (.cells #[.int .u8 z] 5)) := by
  subst hz
  refine Go.Lib.run_convert_whole _ _ 5 _ Tryz.underlying35 Tryz_und_u8s Tryz_und_string W.heap.size 0 (strB [c]) (fun i hi => ?_) 1
  have hi2 : i < 1 := hi
  obtain rfl : i = 0 := by omega
  rw [cell_of_row _ _ 0 _ _ (0, 0) (heap_alloc_new W _)]
  rfl
theorem dgC_int (q : Nat) : (48 + (q : Int) % 10) = ((dgC q).toNat : Int) := by
  unfold dgC
  rw [UInt8.toNat_ofNat']
  omega
theorem strB_size (l : List UInt8) : (strB l).size = l.length := by simp [strB, ByteArray.size]
set_option maxRecDepth 20000 in
set_option maxHeartbeats 8000000 in
theorem l10digits_pos (M : Nat) (hM : M < 9223372036854775808) (w : World) : Calls Tryz.prog 12 #[.int .i64 (M : Int)] w fun e w' => e = .returned (.string (strB (digF 20 M []))) ∧ Below w.heap.size w w' := by
  have t0 : decide ((M : Int) < 0) = false := decide_eq_false (by omega)
  have c0 := conv_one w (48 + (M : Int) % 10) (dgC M) (dgC_int M)
  have hs := DgAt.start M (by omega)
  go_enter Tryz.func12, Tryz.ntmps12
  go_wp2_with fail
  go_loopw [3, 4] (fun m s wr => ∃ (q f : Nat) (l : List UInt8), m = .int .u64 q ∧ s = .string (strB l) ∧ DgAt M q l f ∧ q < 9223372036854775808 ∧ Below w.heap.size w wr) (fun m _ _ => (intOf m).toNat)
  case atStart => exact ⟨M, 19, [dgC M], rfl, rfl, hs, hM, (Below.refl _ _).alloc (Nat.le_refl _) _⟩
  case round =>
    obtain ⟨q, f, l, rfl, rfl, hd, hq, hB⟩ := hrel
    clear c0 hs
    by_cases h9 : 9 < q
    · have t1 : decide ((9 : Int) < (q : Int)) = true := decide_eq_true (by omega)
      obtain ⟨g, rfl, hd2⟩ := hd.step h9
      have c1 := conv_one wr (48 + (q : Int) / 10 % 10) (dgC (q / 10)) (by rw [← dgC_int, Int.natCast_ediv]; rfl)
      have hl := hd.len
      have hz := strB_size l
      have hz1 : (strB [dgC (q / 10)]).size = 1 := strB_size _
      have HD := Lib.hid (And.intro hd2 hB)
      clear hd hd2 hB
      go_wp2_with fail
      go_roundw
      case rel => exact ⟨q / 10, g, dgC (q / 10) :: l, by go_num, by rw [strB_app]; rfl, HD.out.1, by omega, HD.out.2.alloc HD.out.2.size _⟩
      case measure => simp [intOf]; omega
    · have t1 : decide ((9 : Int) < (q : Int)) = false := decide_eq_false (by omega)
      have hdn := hd.done h9
      have HD := Lib.hid hdn
      clear hdn
      go_wp2_with fail
      go_ret
      exact ⟨by rw [HD.out]; rfl, hB⟩
set_option maxRecDepth 20000 in
set_option maxHeartbeats 8000000 in
theorem l10digits_neg (n : Int) (M : Nat) (hM : M ≤ 9223372036854775808) (hn : n = -(M : Int)) (h0 : n < 0) (w : World) : Calls Tryz.prog 12 #[.int .i64 n] w fun e w' => e = .returned (.string (strB (45 :: digF 20 M []))) ∧ Below w.heap.size w w' := by
  have t0 : decide (n < 0) = true := decide_eq_true h0
  have c0 := conv_one w (48 + (M : Int) % 10) (dgC M) (dgC_int M)
  have hs := DgAt.start M (by omega)
  have hm : IntKind.u64.wrap (-(IntKind.u64.wrap n)) = (M : Int) := by rw [IntKind.wrap_u64, IntKind.wrap_u64]; omega
  have HM := Lib.hid hn
  clear hn
  go_enter Tryz.func12, Tryz.ntmps12
  go_wp2_with fail
  go_loopw [3, 4] (fun m s wr => ∃ (q f : Nat) (l : List UInt8), m = .int .u64 q ∧ s = .string (strB l) ∧ DgAt M q l f ∧ q ≤ 9223372036854775808 ∧ Below w.heap.size w wr) (fun m _ _ => (intOf m).toNat)
  case atStart => exact ⟨M, 19, [dgC M], rfl, rfl, hs, hM, (Below.refl _ _).alloc (Nat.le_refl _) _⟩
  case round =>
    obtain ⟨q, f, l, rfl, rfl, hd, hq, hB⟩ := hrel
    clear c0 hs
    by_cases h9 : 9 < q
    · have t1 : decide ((9 : Int) < (q : Int)) = true := decide_eq_true (by omega)
      obtain ⟨g, rfl, hd2⟩ := hd.step h9
      have c1 := conv_one wr (48 + (q : Int) / 10 % 10) (dgC (q / 10)) (by rw [← dgC_int, Int.natCast_ediv]; rfl)
      have hl := hd.len
      have hz := strB_size l
      have hz1 : (strB [dgC (q / 10)]).size = 1 := strB_size _
      have HD := Lib.hid (And.intro hd2 hB)
      clear hd hd2 hB
      go_wp2_with fail
      go_roundw
      case rel => exact ⟨q / 10, g, dgC (q / 10) :: l, by go_num, by rw [strB_app]; rfl, HD.out.1, by omega, HD.out.2.alloc HD.out.2.size _⟩
      case measure => simp [intOf]; omega
    · have t1 : decide ((9 : Int) < (q : Int)) = false := decide_eq_false (by omega)
      have hdn := hd.done h9
      have hl := hd.len
      have hz := strB_size l
      have hz1 : (⟨#[45]⟩ : ByteArray).size = 1 := rfl
      have HD := Lib.hid hdn
      clear hdn
      go_wp2_with fail
      go_ret
      refine ⟨?_, hB⟩
      rw [← HD.out]
      exact congrArg (fun x => Ending.returned (.string x)) (strB_app [45] l)
theorem l10digits_any (n : Int) (hn : i64B n) (w : World) : Calls Tryz.prog 12 #[.int .i64 n] w fun e w' => e = .returned (.string (strB (decB (wrN n)))) ∧ Below w.heap.size w w' := by
  have hn2 := hn
  obtain ⟨n1, n2⟩ := hn2
  by_cases h0 : 0 ≤ n
  · obtain ⟨M, rfl⟩ : ∃ M : Nat, n = M := ⟨n.toNat, by omega⟩
    rw [decB_pos _ hn h0, show wrN (M : Int) = M by unfold wrN; omega]
    exact l10digits_pos M (by omega) w
  · rw [decB_neg _ hn (by omega)]
    exact l10digits_neg n (18446744073709551616 - wrN n) (by unfold wrN; omega) (by unfold wrN; omega) (by omega) w
end Go.Proofs
