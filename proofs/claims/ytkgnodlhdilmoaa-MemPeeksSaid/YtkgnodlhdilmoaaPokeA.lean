/- (*Mem).Poke, and Peek at every argument; patinaref02.Peek and Poke. -/
import Derived.Test.YtkgnodlhdilmoaaRWrite
import Derived.Test.YtkgnodlhdilmoaaPeek
namespace Go.Pat
open Go Go.RowKit Go.Proofs

def pokeE (fs : List Fr) (at_ n : Nat) : Int := if 65536 < n then 1 else askedM fs at_ n 0
def pokeM (fs : List Fr) (at_ : Nat) (bs : List UInt8) : List Fr := if pokeE fs at_ bs.length = 0 then wrF fs at_ bs bs.length else fs
def peekE (fs : List Fr) (at_ : Nat) (n : Int) : Int := if n < 0 ∨ 65536 < n then 1 else askedM fs at_ n.toNat 0
def peekM (fs : List Fr) (at_ : Nat) (n : Int) : List UInt8 := if peekE fs at_ n = 0 then peekL fs at_ n.toNat else []
theorem wrF_blk (fs : List Fr) (at_ : Nat) (bs : List UInt8) (k : Nat) : (wrF fs at_ bs k).map (·.blk) = fs.map (·.blk) := by
  induction k with
  | zero => rfl
  | succ k ih => rw [wrF, setB_blk, ih]
theorem sh_pokeM (fs : List Fr) (at_ : Nat) (bs : List UInt8) : (pokeM fs at_ bs).map Fr.sh = fs.map Fr.sh := by
  unfold pokeM
  split
  · exact sh_wrF _ _ _ _
  · rfl
end Go.Pat
namespace Go.Proofs
open Go Go.RowKit Go.Pat

theorem Poke_big (w : World) (p : Value) (at_ : Nat) (Ab : Option Addr) (nb cb : Nat) (h : 65536 < nb) :
    Calls Try.prog 52 #[p, .int .u64 at_, .slice Ab nb cb] w fun e w' => e = .returned (.int .i64 1) ∧ w = w' := by
  have hd : decide ((65536 : Int) < (nb : Int)) = true := decide_eq_true (by omega)
  go_enter Try.func52, Try.ntmps52
  go_wp2
  go_ret
  exact ⟨rfl, rfl⟩

set_option maxRecDepth 20000 in
set_option maxHeartbeats 4000000 in
theorem Poke_any (w : World) (p mb : Nat) (fs : List Fr) (hM : MemAt w p mb fs) (at_ : Nat) (Ab : Option Addr) (nb cb B0 : Nat) (bs : List UInt8) (hBs : Bs B0 w Ab bs) (hB0 : B0 ≤ w.heap.size) (hlo : ∀ x ∈ fs.map (·.blk), B0 ≤ x) (hnb : bs.length = nb) (hat : at_ < 18446744073709551616) :
    Calls Try.prog 52 #[.pointer (some ⟨p, 0, none⟩), .int .u64 at_, .slice Ab nb cb] w fun e w' =>
      e = .returned (.int .i64 (pokeE fs at_ nb)) ∧ MemAt w' p mb (pokeM fs at_ bs) ∧ KeptBut (fun b => b ∈ fs.map (·.blk)) w w' := by
  by_cases hbig : 65536 < nb
  · have hE : pokeE fs at_ nb = 1 := by rw [pokeE, if_pos hbig]
    refine (Poke_big w _ at_ Ab nb cb hbig).mono ?_
    rintro e w' ⟨rfl, rfl⟩
    exact ⟨by rw [hE], by rw [pokeM, hnb, hE, if_neg (by decide)]; exact hM, .refl _ _⟩
  · have hE : pokeE fs at_ nb = askedM fs at_ nb 0 := by rw [pokeE, if_neg hbig]
    have hd : decide ((65536 : Int) < (nb : Int)) = false := decide_eq_false (by omega)
    by_cases h0 : askedM fs at_ nb 0 = 0
    · obtain ⟨z1, z2, z3⟩ := asked_zero h0
      have h0' : (askedM fs at_ nb 0 != 0) = false := by simp [h0]
      have hS : pokeM fs at_ bs = wrF fs at_ bs nb := by rw [pokeM, hnb, hE, if_pos h0]
      have H0 := Lib.hid (And.intro hS (And.intro hnb (And.intro (hE.trans h0) z3)))
      clear h0 hS hE hnb z3
      go_enter Try.func52, Try.ntmps52
      go_wp2_with (go_at_call 58; refine (asked_all _ p mb fs hM at_ nb 0 hat (by omega)).mono ?_; rintro e w' ⟨rfl, hb⟩)
      have hM1 := hM.below hM.lt hb
      have hK1 : KeptBut (fun b => b ∈ fs.map (·.blk)) w w' := .of_below hb
      clear hb
      go_loopw [26] (fun i wr => ∃ j : Nat, j ≤ nb ∧ i = .int .i64 j ∧ MemAt wr p mb (wrF fs at_ bs j) ∧ KeptBut (fun b => b ∈ fs.map (·.blk)) w wr) (fun i _ => nb - (intOf i).toNat)
      case atStart => exact ⟨0, by omega, rfl, hM1, hK1⟩
      case round =>
        obtain ⟨j, hj, rfl, hMj, hKj⟩ := hrel
        clear hM1 hK1
        by_cases hlt : j < nb
        · have hd3 : decide ((j : Int) < (nb : Int)) = true := decide_eq_true (by omega)
          have hji : (j : Int) < (nb : Int) := by omega
          have hjl : j < bs.length := by rw [H0.out.2.1]; exact hlt
          obtain ⟨bb, bo, rfl, hbb, hbc⟩ := hBs.at_ j hjl
          have hbw := (hKj.cell (p := ⟨bb, bo + j, none⟩) (Nat.lt_of_lt_of_le hbb hB0) (fun hx => by have := hlo bb hx; omega)).trans hbc
          obtain ⟨c8, hc8⟩ : ∃ c8, c8 = bs[j] := ⟨_, rfl⟩
          rw [← hc8] at hbw
          have HC := Lib.hid hc8
          obtain ⟨f0, hf0, _⟩ := H0.out.2.2.2 j hlt
          obtain ⟨f, hf⟩ := page_wrF ⟨f0, hf0⟩ at_ bs j
          have hS : f.blk ∈ fs.map (·.blk) := by rw [← wrF_blk fs at_ bs j]; exact List.mem_map.2 ⟨f, List.mem_of_find?_eq_some hf, rfl⟩
          have hF : FrIn wr f := hMj.pages f (List.mem_of_find?_eq_some hf)
          have HS := Lib.hid hS
          clear hc8 hbc hf0 hS
          have hl2 : (at_ + j) % 4096 < f.data.length := by rw [hF.1]; exact Nat.mod_lt _ (by decide)
          have hcl := fun w2 (hb2 : Below wr.heap.size wr w2) o => (hF.below (hb2.alloc hb2.size o)).cell _ hl2
          have hfz := fun w2 (hb2 : Below wr.heap.size wr w2) o => (hF.below (hb2.alloc hb2.size o)).frozen ((at_ + j) % 4096)
          have HL := Lib.hid (And.intro hcl hfz)
          clear hcl hfz
          go_wp2_with (go_at_call 76; refine (page_hit _ p mb _ hMj (at_ + j) (by omega) f hf).mono ?_; rintro e w2 ⟨rfl, hb2⟩; have hcl := HL.out.1 w2 hb2; have hfz := HL.out.2 w2 hb2)
          go_roundw
          case rel =>
            refine ⟨j + 1, by omega, by go_num, ?_, ?_⟩
            · have e1 : wrF fs at_ bs (j + 1) = setB (wrF fs at_ bs j) (at_ + j) c8 := by
                rw [wrF, HC.out, List.getD_eq_getElem?_getD, List.getElem?_eq_getElem hjl]; rfl
              rw [e1]
              exact (((hMj.below hMj.lt hb2).below (hMj.below hMj.lt hb2).lt ((Below.refl _ _).alloc (Nat.le_refl _) _)).setB hf _)
            · exact (hKj.trans (.of_below (hb2.alloc hb2.size _))).setCell _ HS.out _
          case measure => simp [intOf]; omega
        · have hd3 : decide ((j : Int) < (nb : Int)) = false := decide_eq_false (by omega)
          obtain rfl : j = nb := by omega
          go_wp2
          go_ret
          exact ⟨by rw [H0.out.2.2.1]; rfl, by rw [H0.out.1]; exact hMj, hKj⟩
    · have h0' : (askedM fs at_ nb 0 != 0) = true := by simpa using h0
      have hS : pokeM fs at_ bs = fs := by rw [pokeM, hnb, hE, if_neg h0]
      have H0 := Lib.hid (And.intro hS hE)
      clear h0 hS hE
      go_enter Try.func52, Try.ntmps52
      go_wp2_with (go_at_call 58; refine (asked_all _ p mb fs hM at_ nb 0 hat (by omega)).mono ?_; rintro e w' ⟨rfl, hb⟩)
      go_ret
      exact ⟨by rw [H0.out.2]; rfl, by rw [H0.out.1]; exact hM.below hM.lt hb, .of_below hb⟩

theorem Peek_arg (w : World) (p : Value) (at_ : Nat) (n : Int) (h : n < 0 ∨ 65536 < n) :
    Calls Try.prog 38 #[p, .int .u64 at_, .int .i64 n] w fun e w' => e = .returned (.tuple #[.slice none 0 0, .int .i64 1]) ∧ w = w' := by
  by_cases h1 : n < 0
  · have hd : decide (n < 0) = true := decide_eq_true h1
    clear h
    go_enter Try.func38, Try.ntmps38
    go_wp2
    go_ret2
    exact ⟨rfl, rfl⟩
  · have hd : decide (n < 0) = false := decide_eq_false h1
    have hd2 : decide (65536 < n) = true := decide_eq_true (by omega)
    clear h
    go_enter Try.func38, Try.ntmps38
    go_wp2
    go_ret2
    exact ⟨rfl, rfl⟩

theorem Peek_all (w : World) (p mb : Nat) (fs : List Fr) (hM : MemAt w p mb fs) (at_ : Nat) (n : Int) (hat : at_ < 18446744073709551616) :
    Calls Try.prog 38 #[.pointer (some ⟨p, 0, none⟩), .int .u64 at_, .int .i64 n] w fun e w' => ∃ v, e = .returned (.tuple #[v, .int .i64 (peekE fs at_ n)]) ∧ OwnB w' w.heap.size v (peekM fs at_ n) ∧ Below w.heap.size w w' := by
  by_cases h : n < 0 ∨ 65536 < n
  · have hE : peekE fs at_ n = 1 := by rw [peekE, if_pos h]
    have hL : peekM fs at_ n = [] := by rw [peekM, hE, if_neg (by decide)]
    refine (Peek_arg w _ at_ n h).mono ?_
    rintro e w' ⟨rfl, rfl⟩
    exact ⟨_, by rw [hE], by rw [hL]; exact .nil _ _, Below.refl _ _⟩
  · obtain ⟨k, rfl, hk⟩ : ∃ k : Nat, n = k ∧ k ≤ 65536 := ⟨n.toNat, by omega, by omega⟩
    have hE : peekE fs at_ k = askedM fs at_ k 0 := by rw [peekE, if_neg h]; rfl
    refine (Peek_any w p mb fs hM at_ k hat hk).mono ?_
    rintro e w' (⟨h0, v, rfl, hown, hB⟩ | ⟨h0, rfl, hB⟩)
    · have hL : peekM fs at_ k = peekL fs at_ k := by rw [peekM, hE, if_pos h0]; rfl
      exact ⟨v, by rw [hE, h0], by rw [hL]; exact hown, hB⟩
    · have hL : peekM fs at_ k = [] := by rw [peekM, hE, if_neg h0]
      exact ⟨_, by rw [hE], by rw [hL]; exact .nil _ _, hB⟩

theorem rPeek2_arg (w : World) (l : Value) (at_ : Nat) (n : Int) (hat : at_ < 18446744073709551616) (h : n < 0 ∨ 65536 < n ∨ 281474976710656 ≤ at_ ∨ 281474976710656 - (at_ : Int) < n) :
    Calls Try.prog 51 #[l, .int .u64 at_, .int .i64 n] w fun e w' => e = .returned (.tuple #[.slice none 0 0, .int .i64 1]) ∧ w = w' := by
  by_cases h1 : n < 0
  · have hd : decide (n < 0) = true := decide_eq_true h1
    clear h
    go_enter Try.func51, Try.ntmps51
    go_wp2
    go_ret2
    exact ⟨rfl, rfl⟩
  · have hd : decide (n < 0) = false := decide_eq_false h1
    by_cases h2 : 65536 < n
    · have hd2 : decide (65536 < n) = true := decide_eq_true h2
      clear h
      go_enter Try.func51, Try.ntmps51
      go_wp2
      go_ret2
      exact ⟨rfl, rfl⟩
    · have hd2 : decide (65536 < n) = false := decide_eq_false h2
      by_cases h3 : 281474976710656 ≤ at_
      · have hd3 : decide ((281474976710656 : Int) ≤ (at_ : Int)) = true := decide_eq_true (by omega)
        clear h
        go_enter Try.func51, Try.ntmps51
        go_wp2
        go_ret2
        exact ⟨rfl, rfl⟩
      · have hd3 : decide ((281474976710656 : Int) ≤ (at_ : Int)) = false := decide_eq_false (by omega)
        obtain ⟨k, rfl⟩ : ∃ k : Nat, n = k := ⟨n.toNat, by omega⟩
        have hd4 : decide ((281474976710656 : Int) - (at_ : Int) < (k : Int)) = true := decide_eq_true (by omega)
        have hle : (at_ : Int) ≤ 281474976710656 := by omega
        have hk9 : k ≤ 65536 := by omega
        clear h h1 h2
        go_enter Try.func51, Try.ntmps51
        go_wp2
        go_ret2
        exact ⟨rfl, rfl⟩

set_option maxRecDepth 20000 in
set_option maxHeartbeats 4000000 in
theorem rPeek2_any (w : World) (A : Option Addr) (cap n at_ : Nat) (z : Int) (ps : List PgIn) (fs : List Fr) (hP : PgsAt w.heap.size w A ps) (hn : ps.length = n) (hfs : fs.map Fr.pg = ps.map PgIn.pg) (hok : PsOK (ps.map PgIn.pg)) (hat : at_ < 18446744073709551616) :
    Calls Try.prog 51 #[.slice A n cap, .int .u64 at_, .int .i64 z] w fun e w' => ∃ v, e = .returned (.tuple #[v, .int .i64 (peekE fs at_ z)]) ∧ OwnB w' w.heap.size v (peekM fs at_ z) ∧ Below w.heap.size w w' := by
  by_cases h : z < 0 ∨ 65536 < z ∨ 281474976710656 ≤ at_ ∨ 281474976710656 - (at_ : Int) < z
  · have hE : peekE fs at_ z = 1 := by
      unfold peekE
      split
      · rfl
      · unfold askedM
        rw [if_pos (by omega)]
    have hL : peekM fs at_ z = [] := by rw [peekM, hE, if_neg (by decide)]
    refine (rPeek2_arg w _ at_ z hat h).mono ?_
    rintro e w' ⟨rfl, rfl⟩
    exact ⟨_, by rw [hE], by rw [hL]; exact .nil _ _, Below.refl _ _⟩
  · obtain ⟨k, rfl, hk⟩ : ∃ k : Nat, z = k ∧ k ≤ 65536 := ⟨z.toNat, by omega, by omega⟩
    have hE : peekE fs at_ k = askedM fs at_ k 0 := by rw [peekE, if_neg (by omega)]; rfl
    have d1 : decide ((k : Int) < 0) = false := by simp
    have d2 : decide ((65536 : Int) < (k : Int)) = false := decide_eq_false (by omega)
    have d3 : decide ((281474976710656 : Int) ≤ (at_ : Int)) = false := decide_eq_false (by omega)
    have d4 : decide ((281474976710656 : Int) - (at_ : Int) < (k : Int)) = false := decide_eq_false (by omega)
    have hle : (at_ : Int) ≤ 281474976710656 := by omega
    have htop : at_ + k ≤ 281474976710656 := by omega
    have HN := Lib.hid (And.intro hn (And.intro hfs hok))
    clear h hn hfs hok
    by_cases h0 : askedM fs at_ k 0 = 0
    · have hL : peekM fs at_ k = peekL fs at_ k := by rw [peekM, hE, if_pos h0]; rfl
      obtain ⟨-, -, hpg⟩ := asked_zero h0
      have t1 : (askedM fs at_ k 0 != 0) = false := by rw [h0]; rfl
      have HF := Lib.hid (And.intro (hE.trans h0) (And.intro hL hpg))
      clear h0 hL hE hpg
      go_enter Try.func51, Try.ntmps51
      go_wp2_with fail
      refine Calls.mono (rasked2_any w A cap n at_ k _ 0 ps fs hP HN.out.1 HN.out.2.1 HN.out.2.2 hat (by omega)) ?_
      rintro e w' ⟨rfl, rfl⟩
      go_wp2_with fail
      go_loopw [9, 10] (fun out i wr => ∃ j : Nat, j ≤ k ∧ i = .int .i64 j ∧ OwnB wr w.heap.size out (peekL fs at_ j) ∧ Below w.heap.size w wr) (fun _ i _ => k - (intOf i).toNat)
      case atStart => exact ⟨0, by omega, rfl, .nil _ _, Below.refl _ _⟩
      case round =>
        obtain ⟨j, hj, rfl, hown, hB⟩ := hrel
        by_cases hlk : j < k
        · have hd3 : decide ((j : Int) < (k : Int)) = true := decide_eq_true (by omega)
          obtain ⟨f, hf, -⟩ := HF.out.2.2 j hlk
          have HS := Lib.hid (peekL_succ fs at_ j)
          have hb8 := byteM_lt fs (at_ + j)
          have haj : at_ + j < 18446744073709551616 := by omega
          have e1 : IntKind.u64.wrap ((at_ : Int) + (j : Int)) = (at_ : Int) + (j : Int) := by rw [IntKind.wrap_u64]; omega
          go_wp2_with fail
          refine Calls.mono (rbyteAt2_any wr A cap n (at_ + j) ps fs ((hP.below hB).mono hB.size) HN.out.1 HN.out.2.1 HN.out.2.2 _ (by omega) haj f hf) ?_
          rintro e w2 ⟨rfl, hb2⟩
          have hown2 := hown.below hb2
          have hB2 := hB.trans (hb2.mono hB.size)
          obtain ⟨q, hq⟩ : ∃ q, q = byteM fs (at_ + j) := ⟨_, rfl⟩
          rw [← hq] at hb8 ⊢
          have HQ := Lib.hid hq
          clear hq hown
          go_wp2_with (at_builtin; refine wpList_appB _ rfl _ _ rfl w.heap.size _ (peekL fs at_ j) rfl (hown2.alloc _) _ _ 1 1 [UInt8.ofNat q] rfl rfl (lit_bs _ _ _ _ ?hx) (by rw [peekL_length]; omega) ?hb ?hk)
          case hx => rw [UInt8.toNat_ofNat']; omega
          case hb => simp; have := hB2.size; omega
          case hk =>
            intro v' w1 hown' hB' _
            have hB1 := hB' w (hB2.alloc hB2.size _)
            rw [HQ.out, ← HS.out] at hown'
            clear hB' hown2
            go_wp2
            go_roundw
            case rel => exact ⟨j + 1, by omega, by go_num, hown', hB1⟩
            case measure => simp [intOf]; omega
        · have hd3 : decide ((j : Int) < (k : Int)) = false := decide_eq_false (by omega)
          obtain rfl : j = k := by omega
          go_wp2
          go_ret2
          exact ⟨_, by rw [HF.out.1]; rfl, by rw [HF.out.2.1]; exact hown, hB⟩
    · have hL : peekM fs at_ k = [] := by rw [peekM, hE, if_neg h0]
      have t1 : (askedM fs at_ k 0 != 0) = true := by simpa using h0
      have HF := Lib.hid (And.intro hE hL)
      clear h0 hL hE
      go_enter Try.func51, Try.ntmps51
      go_wp2_with fail
      refine Calls.mono (rasked2_any w A cap n at_ k _ 0 ps fs hP HN.out.1 HN.out.2.1 HN.out.2.2 hat (by omega)) ?_
      rintro e w' ⟨rfl, rfl⟩
      go_wp2
      go_ret2
      exact ⟨_, by rw [HF.out.1]; rfl, by rw [HF.out.2]; exact .nil _ _, Below.refl _ _⟩

theorem rPoke2_arg (w : World) (l : Value) (at_ : Nat) (Ab : Option Addr) (nb cb : Nat) (hat : at_ < 18446744073709551616) (hnb : nb ≤ 281474976710656) (h : 65536 < nb ∨ 281474976710656 ≤ at_ ∨ 281474976710656 - at_ < nb) :
    Calls Try.prog 53 #[l, .int .u64 at_, .slice Ab nb cb] w fun e w' => e = .returned (.tuple #[l, .int .i64 1]) ∧ w = w' := by
  by_cases h2 : 65536 < nb
  · have hd2 : decide ((65536 : Int) < (nb : Int)) = true := decide_eq_true (by omega)
    clear h
    go_enter Try.func53, Try.ntmps53
    go_wp2
    go_ret2
    exact ⟨rfl, rfl⟩
  · have hd2 : decide ((65536 : Int) < (nb : Int)) = false := decide_eq_false (by omega)
    by_cases h3 : 281474976710656 ≤ at_
    · have hd3 : decide ((281474976710656 : Int) ≤ (at_ : Int)) = true := decide_eq_true (by omega)
      clear h
      go_enter Try.func53, Try.ntmps53
      go_wp2
      go_ret2
      exact ⟨rfl, rfl⟩
    · have hd3 : decide ((281474976710656 : Int) ≤ (at_ : Int)) = false := decide_eq_false (by omega)
      have hd4 : decide ((281474976710656 : Int) - (at_ : Int) < (nb : Int)) = true := decide_eq_true (by omega)
      have hle : (at_ : Int) ≤ 281474976710656 := by omega
      clear h
      go_enter Try.func53, Try.ntmps53
      go_wp2
      go_ret2
      exact ⟨rfl, rfl⟩

set_option maxRecDepth 20000 in
set_option maxHeartbeats 4000000 in
theorem rPoke2_any (w : World) (A : Option Addr) (cap n at_ : Nat) (ps : List PgIn) (fs : List Fr) (hP : PgsAt w.heap.size w A ps) (hn : ps.length = n) (hn9 : n ≤ 90000) (hfs : fs.map Fr.pg = ps.map PgIn.pg) (hok : PsOK (ps.map PgIn.pg)) (hat : at_ < 18446744073709551616)
    (Ab : Option Addr) (nb cb : Nat) (bs : List UInt8) (hBs : Bs w.heap.size w Ab bs) (hnb : bs.length = nb) (hnbl : nb ≤ 281474976710656) :
    Calls Try.prog 53 #[.slice A n cap, .int .u64 at_, .slice Ab nb cb] w fun e w' => ∃ A' c' qs, e = .returned (.tuple #[.slice A' n c', .int .i64 (pokeE fs at_ nb)]) ∧ PgsAt w'.heap.size w' A' qs ∧ qs.length = n ∧ qs.map PgIn.pg = (pokeM fs at_ bs).map Fr.pg ∧ Below w.heap.size w w' := by
  by_cases h : 65536 < nb ∨ 281474976710656 ≤ at_ ∨ 281474976710656 - at_ < nb
  · have hE : pokeE fs at_ nb = 1 := by
      unfold pokeE
      split
      · rfl
      · unfold askedM
        rw [if_pos (by omega)]
    have hS : pokeM fs at_ bs = fs := by rw [pokeM, hnb, hE, if_neg (by decide)]
    refine (rPoke2_arg w _ at_ Ab nb cb hat hnbl h).mono ?_
    rintro e w' ⟨rfl, rfl⟩
    exact ⟨A, cap, ps, by rw [hE], hP, hn, by rw [hS]; exact hfs.symm, Below.refl _ _⟩
  · have hE : pokeE fs at_ nb = askedM fs at_ nb 0 := by rw [pokeE, if_neg (by omega)]
    have d2 : decide ((65536 : Int) < (nb : Int)) = false := decide_eq_false (by omega)
    have d3 : decide ((281474976710656 : Int) ≤ (at_ : Int)) = false := decide_eq_false (by omega)
    have d4 : decide ((281474976710656 : Int) - (at_ : Int) < (nb : Int)) = false := decide_eq_false (by omega)
    have hle : (at_ : Int) ≤ 281474976710656 := by omega
    have htop : at_ + nb ≤ 281474976710656 := by omega
    have hk : nb ≤ 65536 := by omega
    have HN := Lib.hid (And.intro hn (And.intro hfs (And.intro hok hnb)))
    by_cases h0 : askedM fs at_ nb 0 = 0
    · have hS : pokeM fs at_ bs = wrF fs at_ bs nb := by rw [pokeM, hnb, hE, if_pos h0]
      obtain ⟨-, -, hpg⟩ := asked_zero h0
      have t1 : (askedM fs at_ nb 0 != 0) = false := by rw [h0]; rfl
      have HF := Lib.hid (And.intro (hE.trans h0) (And.intro hS hpg))
      clear h0 hS hE hpg h hn hfs hok hnb
      go_enter Try.func53, Try.ntmps53
      go_wp2_with fail
      refine Calls.mono (rasked2_any w A cap n at_ nb _ 0 ps fs hP HN.out.1 HN.out.2.1 HN.out.2.2.1 hat (by omega)) ?_
      rintro e w' ⟨rfl, rfl⟩
      go_wp2_with fail
      refine Calls.mono (rwritten2_any w A n cap ps fs hP HN.out.1 hn9 HN.out.2.1 HN.out.2.2.1 at_ Ab nb cb bs hBs HN.out.2.2.2 htop (fun i hi => (HF.out.2.2 i hi).imp fun _ h => h.1)) ?_
      rintro e w3 ⟨A', c', qs, rfl, hP3, hl3, hq3, hB3⟩
      go_wp2
      go_ret2
      exact ⟨A', c', qs, by rw [HF.out.1]; rfl, hP3, hl3, by rw [HF.out.2.1]; exact hq3, hB3⟩
    · have hS : pokeM fs at_ bs = fs := by rw [pokeM, hnb, hE, if_neg h0]
      have t1 : (askedM fs at_ nb 0 != 0) = true := by simpa using h0
      have HF := Lib.hid (And.intro hE hS)
      clear h0 hS hE h hn hfs hok hnb
      go_enter Try.func53, Try.ntmps53
      go_wp2_with fail
      refine Calls.mono (rasked2_any w A cap n at_ nb _ 0 ps fs hP HN.out.1 HN.out.2.1 HN.out.2.2.1 hat (by omega)) ?_
      rintro e w' ⟨rfl, rfl⟩
      go_wp2
      go_ret2
      exact ⟨A, cap, ps, by rw [HF.out.1]; rfl, hP, HN.out.1, by rw [HF.out.2]; exact HN.out.2.1.symm, Below.refl _ _⟩
end Go.Proofs
