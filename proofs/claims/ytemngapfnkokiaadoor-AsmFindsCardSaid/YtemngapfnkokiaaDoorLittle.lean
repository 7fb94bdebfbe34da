/- patina/asm.little, raw, least: bytes of numbers, of items that are no instructions; how long an item is at first. -/
import Derived.Test.YtemngapfnkokiaaDoorItem
import Derived.Test.YtemngapfnkokiaaDoorLi
namespace Go.Proofs
open Go Go.RowKit Go.Pat
/-- a value's own block is another's, or new. -/
def NewOr (w : World) (v v' : Value) : Prop := ∀ g, v'.ownBlock = some g → v.ownBlock = some g ∨ w.heap.size ≤ g
theorem wpList_appB2 {ops : Array Oper} {rest : List Oper} {o : Oper} {a : Act} {Q : Exit → Act → World → Prop} (w : World) (hgd : o.guard = none) (s x : Operand)
    (ho : o.op = .call { callee := .builtin .append, args := #[s, x], argTypes := #[42, 42] }) (base : Nat) (v : Value) (l : List UInt8) (hs : a.eval s = v) (hown : OwnB w base v l)
    (B : Nat) (A : Option Addr) (n c : Nat) (m : List UInt8) (hx : a.eval x = .slice A n c) (hn : m.length = n) (hr : Bs B w A m) (hlen : l.length + n ≤ 140737488355328) (hbase : base ≤ w.heap.size)
    (h : ∀ v' w', OwnB w' base v' (l ++ m) → (∀ W, Below base W w → Below base W w') → (∀ g, g < w.heap.size → v.ownBlock ≠ some g → w'.heap[g]? = w.heap[g]?) → NewOr w v v' → w.heap.size ≤ w'.heap.size → wpList Tryd.prog ops Q rest (a.put o.dst v') w') :
    wpList Tryd.prog ops Q (o :: rest) a w := by
  refine wpList_app w hgd s x 42 ho Tryd_elU8 base v l.length (bcells l) hs hown B A n c (bcells m) hx (by rw [bcells_length, hn, Nat.mul_one]) hr (bcells_one m) (by simp only [maxLen]; omega) (by rw [Nat.mul_one]; exact hlen) hbase ?_
  intro v' w' h1 hg hnil hat
  refine h v' w' ?_ (fun W hW => own_below hown hW hg hbase) (fun g hg1 hg2 => hg.block g hg1 (fun e => hg2 e.symm)) (fun g hg3 => ?_) hg.size
  · unfold OwnB
    rw [List.length_append, hn, bcells_append]
    exact h1
  · rcases hat with h2 | h2
    · exact .inl (h2 ▸ hg3)
    · rw [h2] at hg3
      exact .inr (by have := Option.some.inj hg3; omega)
def LittleTo (base : Nat) (v : Value) (l : List UInt8) (w : World) (e : Ending) (w' : World) : Prop :=
  ∃ v', e = .returned v' ∧ OwnB w' base v' l ∧ (∀ W, Below base W w → Below base W w') ∧ (∀ g, g < w.heap.size → v.ownBlock ≠ some g → w'.heap[g]? = w.heap[g]?) ∧ NewOr w v v' ∧ w.heap.size ≤ w'.heap.size
theorem alittle_any (w : World) (base : Nat) (v : Value) (l : List UInt8) (x n : Nat) (hv : OwnB w base v l) (hbase : base ≤ w.heap.size) (hx : x < 18446744073709551616) (hn : n ≤ 8) (hl : l.length ≤ 140737488000000) :
    Calls Tryd.prog 79 #[v, .int .u64 (x : Int), .int .i64 (n : Int)] w (LittleTo base v (l ++ le n x) w) := by
  go_enter Tryd.func79, Tryd.ntmps79
  go_wp2
  go_loopw [0, 1, 8] (fun out q i wr => ∃ j : Nat, j ≤ n ∧ i = .int .i64 j ∧ q = .int .u64 ((x / 256 ^ j : Nat) : Int) ∧ OwnB wr base out (l ++ le j x) ∧ (∀ W, Below base W w → Below base W wr) ∧ (∀ g, g < w.heap.size → v.ownBlock ≠ some g → wr.heap[g]? = w.heap[g]?) ∧ NewOr w v out ∧ w.heap.size ≤ wr.heap.size) (fun _ _ i _ => n - (intOf i).toNat)
  case atStart => exact ⟨0, by omega, rfl, by simp, by simpa [le] using hv, fun _ h => h, fun _ _ _ => rfl, fun _ h => .inl h, Nat.le_refl _⟩
  case round =>
    obtain ⟨j, hj, rfl, rfl, hown, hB, hK, hN, hS⟩ := hrel
    by_cases hlt : j < n
    · have hd3 : decide ((j : Int) < (n : Int)) = true := by simp; omega
      obtain ⟨q, hq⟩ : ∃ q, q = x / 256 ^ j := ⟨_, rfl⟩
      have hqv : q < 18446744073709551616 := by rw [hq]; exact Nat.lt_of_le_of_lt (Nat.div_le_self _ _) hx
      rw [← hq]
      have HQ := Lib.hid hq
      have HK := Lib.hid hK
      have HB := Lib.hid hB
      clear hq hK hB
      go_wp2_with (at_builtin; refine wpList_appB2 _ rfl _ _ rfl base _ (l ++ le j x) rfl (hown.alloc _) _ _ 1 1 [UInt8.ofNat q] rfl rfl (lit_bs _ _ _ _ ?hx) (by rw [List.length_append, le_length]; omega) ?hb ?hk)
      case hx => rw [UInt8.toNat_ofNat']; omega
      case hb => rw [World.size_alloc]; omega
      case hk =>
        intro v' w1 hown' hB' hK' hN' hS'
        have hS2 : wr.heap.size + 1 ≤ w1.heap.size := by first | exact hS' | (rw [World.size_alloc] at hS'; exact hS')
        first | rw [HQ.out, ← le_succ] at hown' | rw [HQ.out, List.append_assoc, ← le_succ] at hown'
        have HB1 := Lib.hid (show ∀ W, Below base W w → Below base W w1 from fun W hW => hB' W ((HB.out W hW).alloc (by omega) _))
        have HK1 := Lib.hid (show ∀ g, g < w.heap.size → v.ownBlock ≠ some g → w1.heap[g]? = w.heap[g]? from fun g h1 h2 => by
          rw [hK' g (by first | omega | (rw [World.size_alloc]; omega)) (fun e => by rcases hN g e with h | h; exact h2 h; omega), Below.heap_alloc _ _ g (by omega)]
          exact HK.out g h1 h2)
        have HN1 := Lib.hid (show NewOr w v v' from fun g h => by
          rcases hN' g h with h | h
          · exact hN g h
          · exact .inr (by first | omega | (rw [World.size_alloc] at h; omega)))
        clear hB' hK' hN' hown hN
        go_wp2
        go_roundw
        case rel =>
          refine ⟨j + 1, by omega, by go_num, ?_, hown', HB1.out, HK1.out, HN1.out, by omega⟩
          rw [HQ.out, Nat.pow_succ, ← Nat.div_div_eq_div_mul]
          exact congrArg (Value.int .u64) (by omega)
        case measure => simp [intOf]; omega
    · have hd3 : decide ((j : Int) < (n : Int)) = false := by simp; omega
      obtain rfl : j = n := by omega
      have HP := Lib.hid (And.intro hown (And.intro hB (And.intro hK (And.intro hN hS))))
      clear hown hB hK hN hS
      go_wp2
      go_ret
      exact ⟨_, rfl, HP.out.1, HP.out.2.1, HP.out.2.2.1, HP.out.2.2.2.1, HP.out.2.2.2.2⟩
end Go.Proofs
namespace Go.Pat
open Go Go.RowKit
/-- how many bytes an item takes at first. -/
def leastM (x : It) : Int := if x.k = 3 then 4 * ((Go.Proofs.liL x.rd x.n).length : Int) else if x.k = 4 ∨ x.k = 8 then 8 else if x.k = 9 then x.n else if x.k = 1 then 0 else 4
end Go.Pat
namespace Go.Proofs
open Go Go.RowKit Go.Pat
theorem aleast_any (x : It) (hr : -9223372036854775808 ≤ x.n ∧ x.n < 9223372036854775808) (w : World) (hT : TzTab w) : Calls Tryd.prog 74 #[.agg x.cs] w (ErrTo (leastM x) w) := by
  obtain ⟨k, s, op, rd, a, b, n⟩ := x
  show Calls Tryd.prog 74 #[.agg #[.int .i64 k, .string s, .int .i64 op, .int .i64 rd, .int .i64 a, .int .i64 b, .int .i64 n]] w (ErrTo (leastM ⟨k, s, op, rd, a, b, n⟩) w)
  obtain ⟨v, hv⟩ : ∃ v, v = leastM ⟨k, s, op, rd, a, b, n⟩ := ⟨_, rfl⟩
  rw [← hv]
  have HV := Lib.hid (show v = if k = 3 then 4 * ((liL rd n).length : Int) else if k = 4 ∨ k = 8 then 8 else if k = 9 then n else if k = 1 then 0 else 4 from hv)
  clear hv
  simp only at hr
  by_cases h3 : k = 3
  · subst h3
    have hT0 := hT.below (form1 w (.cells #[.int .i64 3, .string s, .int .i64 op, .int .i64 rd, .int .i64 a, .int .i64 b, .int .i64 n] 61))
    have HL := Lib.hid (fun W (hW : TzTab W) => li_all rd n W hW hr)
    have hll : (liL rd n).length ≤ 12 := liM_len 6 rd n
    clear hr hT
    go_enter Tryd.func74, Tryd.ntmps74
    go_wp2_with fail
    refine Calls.mono (HL.out _ hT0) ?_
    rintro e w2 ⟨v1, rfl, hown, hB2⟩
    obtain ⟨A1, c1, rfl, hc1⟩ := hown.form
    clear hown hc1
    go_wp2
    go_ret
    exact ⟨by rw [HV.out]; rfl, (form1 w _).trans (hB2.mono (form1 w _).size)⟩
  · have t3 : (k == 3) = false := by simpa using h3
    by_cases h4 : k = 4
    · subst h4
      clear h3 hr
      go_enter Tryd.func74, Tryd.ntmps74
      go_wp2
      go_ret
      exact ⟨by rw [HV.out]; rfl, form1 w _⟩
    · have t4 : (k == 4) = false := by simpa using h4
      by_cases h8 : k = 8
      · subst h8
        clear h3 h4 hr
        go_enter Tryd.func74, Tryd.ntmps74
        go_wp2
        go_ret
        exact ⟨by rw [HV.out]; rfl, form1 w _⟩
      · have t8 : (k == 8) = false := by simpa using h8
        by_cases h9 : k = 9
        · subst h9
          clear h3 h4 h8 hr
          go_enter Tryd.func74, Tryd.ntmps74
          go_wp2
          go_ret
          exact ⟨by rw [HV.out]; rfl, form1 w _⟩
        · have t9 : (k == 9) = false := by simpa using h9
          by_cases h1 : k = 1
          · subst h1
            clear h3 h4 h8 h9 hr
            go_enter Tryd.func74, Tryd.ntmps74
            go_wp2
            go_ret
            exact ⟨by rw [HV.out]; rfl, form1 w _⟩
          · have t1 : (k == 1) = false := by simpa using h1
            have HV2 := Lib.hid (show v = 4 by rw [HV.out, if_neg h3, if_neg (by omega), if_neg h9, if_neg h1])
            clear h3 h4 h8 h9 h1 hr HV
            go_enter Tryd.func74, Tryd.ntmps74
            go_wp2
            go_ret
            exact ⟨by rw [HV2.out]; rfl, form1 w _⟩
end Go.Proofs
