/- The reference machine (patinaref03) in memory; its functions page, may. -/
import Derived.Test.YtemngapfnkokiaaGreatDoorMachC
import Derived.Test.YtemngapfnkokiaaGreatDoorBufs
import Derived.BigQuiet
import Derived.Test.YtemngapfnkokiaaGreatDoorAlus
import Derived.Deep.RegionLaw
import Derived.Test.YtemngapfnkokiaaGreatDoorLd
namespace Go.Pat
open Go Go.RowKit
/-- a page's cells in the reference machine's list. -/
def frP (f : Fr) : PgIn := ⟨f.base, f.perm, some ⟨f.blk, 0, none⟩, f.cap, f.data⟩
/-- the place of a page among others; -1: none. -/
def ixF : List Fr → Nat → Int → Int
  | [], _, _ => -1
  | f :: r, b, n => if b = f.base then n else ixF r b (n + 1)
theorem ixF_drop (l : List Fr) (b : Nat) (k : Nat) (hk : k < l.length) (n : Int) : ixF (l.drop k) b n = if b = l[k].base then n else ixF (l.drop (k + 1)) b (n + 1) := by
  rw [List.drop_eq_getElem_cons hk]; rfl
theorem ixF_spec (l : List Fr) (b : Nat) (n : Int) : (ixF l b n = -1 ∧ frAt l b = none) ∨ ∃ k, ∃ h : k < l.length, ixF l b n = n + k ∧ frAt l b = some l[k] := by
  induction l generalizing n with
  | nil => exact .inl ⟨rfl, rfl⟩
  | cons f r ih =>
    unfold ixF
    by_cases hb : b = f.base
    · rw [if_pos hb]
      exact .inr ⟨0, by simp, by simp, by simp [frAt, hb]⟩
    · rw [if_neg hb]
      rcases ih (n + 1) with ⟨h1, h2⟩ | ⟨k, hk, h1, h2⟩
      · exact .inl ⟨h1, by rw [← h2]; simp [frAt, Ne.symm hb]⟩
      · exact .inr ⟨k + 1, by simp; omega, by rw [h1]; omega, by rw [List.getElem_cons_succ, ← h2]; simp [frAt, Ne.symm hb]⟩
end Go.Pat
namespace Go.Proofs
open Go Go.RowKit Go.Pat
/-- the reference machine in memory: its state as the machine's, its pages a list. -/
structure RefAt (w : World) (m : Nat) (PA : Option Addr) (pc : Nat) (ov iv : Value) (s : Ms) : Prop where
  cells : ∃ oc, OutIs oc ov s.c.out ∧ w.heap[m]? = some (.cells (mcells s.c oc (.slice PA s.fs.length pc) iv).toArray 42 (0, 0))
  row : Cs w.heap.size w PA (pcells (s.fs.map frP))
  rowb : ∀ a, PA = some a → ∃ cur, w.heap[a.block]? = some (.cells cur 54 (0, 0))
  pages : ∀ f ∈ s.fs, FrIn w f
  apart : (s.fs.map (·.blk)).Nodup
  keys : (s.fs.map (·.base)).Nodup
  low : ∀ f ∈ s.fs, f.base < 281474976710656
  few : s.fs.length ≤ 4096
  len : s.c.regs.length = 32
  small : ∀ i, s.c.reg i < 18446744073709551616
  pc : s.c.pc < 18446744073709551616
  out : OwnB w 0 ov s.c.out
  inn : OwnB w 0 iv s.inp
  rng : 0 ≤ s.c.inn ∧ s.c.inn ≤ s.inp.length
  apO : ∀ g, ov.ownBlock = some g → g ∉ s.fs.map (·.blk)
  apI : ∀ g, iv.ownBlock = some g → g ∉ s.fs.map (·.blk) ∧ ov.ownBlock ≠ some g
section
variable {w : World} {m : Nat} {PA : Option Addr} {pc : Nat} {ov iv : Value} {s : Ms}
theorem RefAt.cell (h : RefAt w m PA pc ov iv s) (i : Nat) (v : Value) (hv : ∀ oc, (mcells s.c oc (.slice PA s.fs.length pc) iv)[i]? = some v) : w.cell? ⟨m, i, none⟩ = some v := by
  obtain ⟨oc, -, hc⟩ := h.cells
  exact (obj_cell hc i).trans (by simpa using hv oc)
theorem RefAt.cpc (h : RefAt w m PA pc ov iv s) : w.cell? ⟨m, 0, none⟩ = some (.int .u64 (s.c.pc : Int)) := h.cell 0 _ fun _ => rfl
theorem RefAt.creg (h : RefAt w m PA pc ov iv s) (i : Nat) (hi : i < 32) : w.cell? ⟨m, 1 + i, none⟩ = some (.int .u64 ((s.c.reg i : Nat) : Int)) := h.cell (1 + i) _ fun _ => mget_reg h.len i hi
theorem RefAt.csteps (h : RefAt w m PA pc ov iv s) : w.cell? ⟨m, 33, none⟩ = some (.int .i64 s.c.steps) := h.cell 33 _ fun _ => mget_tail h.len 0
theorem RefAt.chalted (h : RefAt w m PA pc ov iv s) : w.cell? ⟨m, 34, none⟩ = some (.bool s.c.halted) := h.cell 34 _ fun _ => mget_tail h.len 1
theorem RefAt.ccode (h : RefAt w m PA pc ov iv s) : w.cell? ⟨m, 35, none⟩ = some (.int .i64 s.c.code) := h.cell 35 _ fun _ => mget_tail h.len 2
theorem RefAt.cfault (h : RefAt w m PA pc ov iv s) : w.cell? ⟨m, 36, none⟩ = some (.int .i64 s.c.fault) := h.cell 36 _ fun _ => mget_tail h.len 3
theorem RefAt.cout (h : RefAt w m PA pc ov iv s) : ∃ oc, OutIs oc ov s.c.out ∧ w.cell? ⟨m, 37, none⟩ = some oc ∧ w.heap[m]? = some (.cells (mcells s.c oc (.slice PA s.fs.length pc) iv).toArray 42 (0, 0)) := by
  obtain ⟨oc, ho, hc⟩ := h.cells
  exact ⟨oc, ho, (obj_cell hc 37).trans (by rw [List.getElem?_toArray]; exact mget_tail h.len 4), hc⟩
theorem RefAt.cin (h : RefAt w m PA pc ov iv s) : w.cell? ⟨m, 38, none⟩ = some (.int .i64 s.c.inn) := h.cell 38 _ fun _ => mget_tail h.len 5
theorem RefAt.cpgs (h : RefAt w m PA pc ov iv s) : w.cell? ⟨m, 39, none⟩ = some (.slice PA s.fs.length pc) := h.cell 39 _ fun _ => mget_tail h.len 6
theorem RefAt.cinp (h : RefAt w m PA pc ov iv s) : w.cell? ⟨m, 40, none⟩ = some iv := h.cell 40 _ fun _ => mget_tail h.len 7
theorem RefAt.fz (h : RefAt w m PA pc ov iv s) (i : Nat) : w.frozen? ⟨m, i, none⟩ = false := by
  obtain ⟨_, -, hc⟩ := h.cells
  exact obj_frozen hc i
theorem RefAt.lt (h : RefAt w m PA pc ov iv s) : m < w.heap.size := by
  obtain ⟨_, -, hc⟩ := h.cells
  exact lt_of_block hc
theorem RefAt.below {w' : World} (h : RefAt w m PA pc ov iv s) (hb : Below w.heap.size w w') : RefAt w' m PA pc ov iv s := by
  obtain ⟨oc, ho, hc⟩ := h.cells
  refine ⟨⟨oc, ho, (hb.block _ h.lt).trans hc⟩, (h.row.below hb).more hb.size, fun a ha => ?_, fun f hf => (h.pages f hf).keep ?_, h.apart, h.keys, h.low, h.few, h.len, h.small, h.pc, h.out.below hb, h.inn.below hb, h.rng, h.apO, h.apI⟩
  · obtain ⟨cur, hc⟩ := h.rowb a ha
    exact ⟨cur, (hb.block _ (lt_of_block hc)).trans hc⟩
  · obtain ⟨_, _, _, cur, hc, _⟩ := h.pages f hf
    exact hb.block _ (lt_of_block hc)
/-- a page's cells where they lie. -/
theorem pg_at {B : Nat} {A : Option Addr} {l : List Fr} (h : Cs B w A (pcells (l.map frP))) (k : Nat) (hk : k < l.length) :
    ∃ b o, A = some ⟨b, o, none⟩ ∧ b < B ∧ w.cell? ⟨b, o + k * 3, none⟩ = some (.int .u64 (l[k].base : Int)) ∧ w.cell? ⟨b, o + k * 3 + 1, none⟩ = some (.int .i64 l[k].perm) ∧ w.cell? ⟨b, o + k * 3 + 2, none⟩ = some (.slice (some ⟨l[k].blk, 0, none⟩) l[k].data.length l[k].cap) := by
  have hlen := pcells_length (l.map frP)
  rw [List.length_map] at hlen
  have gt : ∀ j, j < 3 → ∃ b o, A = some ⟨b, o, none⟩ ∧ b < B ∧ w.cell? ⟨b, o + (k * 3 + j), none⟩ = ((frP l[k]).cells)[j]? := fun j hj => by
    obtain ⟨b, o, e, hb, hx⟩ := h (k * 3 + j) (by omega)
    refine ⟨b, o, e, hb, ?_⟩
    have h2 := pcells_get (l.map frP) k (by simpa using hk) j hj
    rw [List.getElem_map] at h2
    rw [hx, ← h2, List.getElem?_eq_getElem (by omega)]
  obtain ⟨b, o, rfl, hb, g0⟩ := gt 0 (by omega)
  obtain ⟨_, _, e1, _, g1⟩ := gt 1 (by omega)
  obtain ⟨_, _, e2, _, g2⟩ := gt 2 (by omega)
  cases e1; cases e2
  exact ⟨b, o, rfl, hb, g0, g1, g2⟩
end
section
variable (w : World) (m : Nat) (PA : Option Addr) (pc : Nat) (ov iv : Value) (s : Ms)
set_option maxRecDepth 20000 in
set_option maxHeartbeats 4000000 in
theorem r3page_any (hM : RefAt w m PA pc ov iv s) (at_ : Nat) (hat : at_ < 18446744073709551616) :
    Calls Tryz.prog 52 #[.pointer (some ⟨m, 0, none⟩), .int .u64 (at_ : Int)] w fun e w' => e = .returned (.int .i64 (ixF s.fs (at_ / 4096 * 4096) 0)) ∧ Below w.heap.size w w' := by
  obtain ⟨v, hv⟩ : ∃ v, ixF s.fs (at_ / 4096 * 4096) 0 = v := ⟨_, rfl⟩
  rw [hv]
  have HV := Lib.hid (show ixF (s.fs.drop 0) (at_ / 4096 * 4096) ((0 : Nat) : Int) = v from hv)
  obtain ⟨bs, hbs⟩ : ∃ bs : Nat, bs = at_ / 4096 * 4096 := ⟨_, rfl⟩
  rw [← hbs] at HV
  have hbi : (at_ : Int) / 4096 * 4096 = (bs : Int) := by omega
  have c39 := hM.cpgs
  have hml := hM.lt
  have hfew := hM.few
  have HM := Lib.hid hM
  have hbl : bs < 18446744073709551616 := by omega
  clear hv hM hbs
  go_enter Tryz.func52, Tryz.ntmps52
  go_wp2_with fail
  go_loopw [12] (fun i wr => ∃ k : Nat, k ≤ s.fs.length ∧ i = .int .i64 k ∧ ixF (s.fs.drop k) bs (k : Int) = v ∧ Below w.heap.size w wr) (fun i _ => s.fs.length - (intOf i).toNat)
  case atStart => exact ⟨0, Nat.zero_le _, rfl, HV.out, Below.refl _ _⟩
  case round =>
    obtain ⟨k, hk, rfl, hd, hB⟩ := hrel
    by_cases hlt : k < s.fs.length
    · have t1 : decide ((k : Int) < (s.fs.length : Int)) = true := decide_eq_true (by omega)
      have hku : (k : Int) < (s.fs.length : Int) := by omega
      obtain ⟨b, o, e0, hb, x0, x1, x2⟩ := pg_at (HM.out.row.below hB) k hlt
      cases e0
      rw [ixF_drop _ bs k hlt] at hd
      have hsz := hB.size
      have hbl2 : b < wr.heap.size := Nat.lt_of_lt_of_le hb hsz
      generalize (s.fs[k]).base = v0 at *
      generalize (s.fs[k]).perm = v1 at *
      generalize (s.fs[k]).blk = v2 at *
      generalize (s.fs[k]).data.length = v3 at *
      generalize (s.fs[k]).cap = v4 at *
      have HB := Lib.hid (hB.alloc hB.size (.cells #[.int .u64 (v0 : Int), .int .i64 v1, .slice (some ⟨v2, 0, none⟩) v3 v4] 54))
      clear hB
      by_cases h1 : bs = v0
      · have q1 : ((bs : Int) == (v0 : Int)) = true := by simp; omega
        rw [if_pos h1] at hd
        have HD := Lib.hid hd
        clear hd h1
        go_wp2_with fail
        go_ret
        exact ⟨by rw [← HD.out]; rfl, HB.out⟩
      · have q1 : ((bs : Int) == (v0 : Int)) = false := by simp; omega
        rw [if_neg h1] at hd
        have HD := Lib.hid hd
        clear hd h1
        go_wp2_with fail
        go_roundw
        case rel => exact ⟨k + 1, by omega, by go_num, by rw [← HD.out]; congr 1, HB.out⟩
        case measure => simp [intOf]; omega
    · have t1 : decide ((k : Int) < (s.fs.length : Int)) = false := decide_eq_false (by omega)
      obtain rfl : k = s.fs.length := by omega
      rw [List.drop_length] at hd
      have HD := Lib.hid hd
      clear hd
      go_wp2_with fail
      go_ret
      exact ⟨by rw [← HD.out]; rfl, hB⟩
end
end Go.Proofs

/- The reference machine (patinaref03): may, load, fault. -/
namespace Go.Pat
open Go Go.RowKit
theorem and_pow (q : Int) (k : Nat) (hk : k < 3) : bits .and .i64 q (2 ^ k) = 0 ∨ bits .and .i64 q (2 ^ k) = 2 ^ k := by
  have e : bits .and .i64 q (2 ^ k) = IntKind.i64.wrap ((BitVec.ofInt 64 q &&& BitVec.ofInt 64 (2 ^ k)).toNat : Nat) := rfl
  have h1 : BitVec.ofInt 64 (2 ^ k) = BitVec.twoPow 64 k := by
    rcases (show k = 0 ∨ k = 1 ∨ k = 2 by omega) with rfl | rfl | rfl <;> decide
  rw [e, h1, BitVec.and_twoPow]
  split
  · right
    rcases (show k = 0 ∨ k = 1 ∨ k = 2 by omega) with rfl | rfl | rfl <;> decide
  · left; decide
theorem and_pow3 (q p : Int) (hp : p = 1 ∨ p = 2 ∨ p = 4) : bits .and .i64 q p = 0 ∨ bits .and .i64 q p = p := by
  rcases hp with rfl | rfl | rfl
  · exact and_pow q 0 (by decide)
  · exact and_pow q 1 (by decide)
  · exact and_pow q 2 (by decide)
theorem pOK_is (q p : Int) (hp : p = 1 ∨ p = 2 ∨ p = 4) : pOK q p = !(bits .and .i64 q p == 0) := by
  unfold pOK
  have hp0 : p ≠ 0 := by omega
  rcases and_pow3 q p hp with h | h <;> rw [h]
  · simp; exact fun h => hp0 h.symm
  · simp [hp0]
theorem ask_all {fs : List Fr} {at_ : Nat} {perm : Int} : ∀ n : Nat, (∀ i, i < n → ∃ f, pageOf fs (at_ + i) = some f ∧ pOK f.perm perm = true) → askTo fs at_ perm n = 0
  | 0, _ => rfl
  | n + 1, h => by
    have h1 := ask_all n fun i hi => h i (by omega)
    obtain ⟨f, hf, hp⟩ := h n (by omega)
    rw [askTo, h1, if_neg (by decide), hf]
    simp only [hp, if_true]
theorem numM_low (fs : List Fr) : ∀ (k at_ : Nat), numM fs at_ (k + 1) = byteM fs at_ + 256 * numM fs (at_ + 1) k
  | 0, at_ => by simp [numM]
  | k + 1, at_ => by
    have h := numM_low fs k at_
    rw [numM, h, numM, show at_ + 1 + k = at_ + (k + 1) by omega, Nat.mul_add, Nat.pow_succ]
    rw [Nat.mul_comm (256 ^ k) 256, Nat.mul_left_comm, Nat.add_assoc]
theorem up_byte (v b : Nat) (hv : v * 256 < 18446744073709551616) (hb : b < 256) : bits BinOp.or IntKind.u64 ((v * 256 : Nat) : Int) (b : Int) = ((v * 256 + b : Nat) : Int) := by
  rw [u64_or_nat (v * 256) b hv (by omega), nat_join 8 (v * 256) b (by omega) (by omega)]
end Go.Pat
namespace Go.Proofs
open Go Go.RowKit Go.Pat
section
variable (w : World) (m : Nat) (PA : Option Addr) (pc : Nat) (ov iv : Value) (s : Ms)
set_option maxRecDepth 20000 in
set_option maxHeartbeats 8000000 in
theorem r3may_any (hM : RefAt w m PA pc ov iv s) (at_ : Nat) (hat : at_ < 18446744073709551616) (n : Nat) (hn : n ≤ 8) (perm : Int) (hp : perm = 1 ∨ perm = 2 ∨ perm = 4) :
    Calls Tryz.prog 31 #[.pointer (some ⟨m, 0, none⟩), .int .u64 (at_ : Int), .int .i64 (n : Int), .int .i64 perm] w fun e w' => e = .returned (.bool (decide (askedM s.fs at_ n perm = 0))) ∧ Below w.heap.size w w' := by
  by_cases h1 : 281474976710656 ≤ at_
  · have t1 : decide ((281474976710656 : Int) ≤ (at_ : Int)) = true := decide_eq_true (by omega)
    have HV := Lib.hid (show decide (askedM s.fs at_ n perm = 0) = false by unfold askedM; rw [if_pos (.inl h1)]; rfl)
    clear hM hp h1
    go_enter Tryz.func31, Tryz.ntmps31
    go_wp2_with fail
    go_ret
    exact ⟨by rw [HV.out]; rfl, Below.refl _ _⟩
  · have t1 : decide ((281474976710656 : Int) ≤ (at_ : Int)) = false := decide_eq_false (by omega)
    have hw1 : IntKind.u64.wrap (n : Int) = (n : Int) := by rw [IntKind.wrap_u64]; omega
    have hw2 : IntKind.u64.wrap ((at_ : Int) + (n : Int)) = (at_ : Int) + (n : Int) := by rw [IntKind.wrap_u64]; omega
    by_cases h2 : 281474976710656 < at_ + n
    · have t2 : decide ((281474976710656 : Int) < (at_ : Int) + (n : Int)) = true := decide_eq_true (by omega)
      have HV := Lib.hid (show decide (askedM s.fs at_ n perm = 0) = false by unfold askedM; rw [if_pos (.inr (by omega))]; rfl)
      clear hM hp h1
      go_enter Tryz.func31, Tryz.ntmps31
      go_wp2_with fail
      go_ret
      exact ⟨by rw [HV.out]; rfl, Below.refl _ _⟩
    · have t2 : decide ((281474976710656 : Int) < (at_ : Int) + (n : Int)) = false := decide_eq_false (by omega)
      obtain ⟨V, hV⟩ : ∃ V, decide (askedM s.fs at_ n perm = 0) = V := ⟨_, rfl⟩
      have HT := Lib.hid (show (∀ i, i < n → ∃ f, pageOf s.fs (at_ + i) = some f ∧ pOK f.perm perm = true) → V = true from fun h => by
        rw [← hV]
        exact decide_eq_true (by unfold askedM; rw [if_neg (by omega)]; exact ask_all n h))
      have HF := Lib.hid (show ∀ i, i < n → (∀ f, pageOf s.fs (at_ + i) = some f → pOK f.perm perm = false) → V = false from fun i hi h => by
        rw [← hV]
        refine decide_eq_false fun hz => ?_
        obtain ⟨_, _, h3⟩ := asked_zero hz
        obtain ⟨f, hf, hpf⟩ := h3 i hi
        rw [h f hf] at hpf
        cases hpf)
      rw [hV]
      have HM := Lib.hid hM
      have HP := Lib.hid hp
      have hfew := hM.few
      clear hV hM hp
      go_enter Tryz.func31, Tryz.ntmps31
      go_wp2_with fail
      go_loopw [9] (fun i wr => ∃ k : Nat, k ≤ n ∧ i = .int .i64 k ∧ (∀ i, i < k → ∃ f, pageOf s.fs (at_ + i) = some f ∧ pOK f.perm perm = true) ∧ Below w.heap.size w wr) (fun i _ => n - (intOf i).toNat)
      case atStart => exact ⟨0, Nat.zero_le _, rfl, fun i hi => (by omega), Below.refl _ _⟩
      case round =>
        obtain ⟨k, hk, rfl, hd, hB⟩ := hrel
        by_cases hlt : k < n
        · have t3 : decide ((k : Int) < (n : Int)) = true := decide_eq_true (by omega)
          have hw3 : IntKind.u64.wrap (k : Int) = (k : Int) := by rw [IntKind.wrap_u64]; omega
          obtain ⟨ak, hak⟩ : ∃ ak : Nat, at_ + k = ak := ⟨_, rfl⟩
          have hw4 : IntKind.u64.wrap ((at_ : Int) + (k : Int)) = (ak : Int) := by rw [IntKind.wrap_u64]; omega
          have hw5 : (at_ : Int) + (k : Int) = (ak : Int) := by omega
          have hPg0 := r3page_any wr m PA pc ov iv s (HM.out.below hB) ak (by omega)
          have HPg := Lib.hid hPg0
          have HD := Lib.hid hd
          have HB := Lib.hid hB
          clear hPg0 hd hB
          rcases ixF_spec s.fs (ak / 4096 * 4096) 0 with ⟨e1, e2⟩ | ⟨j, hj, e1, e2⟩
          · rw [e1] at HPg
            have HVF := Lib.hid (HF.out k hlt (fun f hf => by unfold pageOf at hf; rw [hak, e2] at hf; cases hf))
            clear e1 e2 hak
            go_wp2_with (go_at_call 52; (with_reducible refine HPg.out.mono ?_); rintro e w2 ⟨rfl, hB2⟩)
            go_ret
            exact ⟨by rw [HVF.out]; rfl, HB.out.trans (hB2.mono HB.out.size)⟩
          · rw [e1, Int.zero_add] at HPg
            have HE := Lib.hid (show pageOf s.fs (at_ + k) = some s.fs[j] from by rw [hak]; exact e2)
            have hju : (j : Int) < (s.fs.length : Int) := by omega
            have tj : decide ((j : Int) < 0) = false := decide_eq_false (by omega)
            clear e1 e2 hak
            obtain ⟨q, hq⟩ : ∃ q, (s.fs[j]).perm = q := ⟨_, rfl⟩
            have HQ := Lib.hid hq
            have HO := Lib.hid (pOK_is q perm HP.out)
            clear hq
            cases tb : (bits BinOp.and .i64 q perm == 0)
            · have HN := Lib.hid (show ∀ i, i < k + 1 → ∃ f, pageOf s.fs (at_ + i) = some f ∧ pOK f.perm perm = true from fun i hi => by
                by_cases hik : i < k
                · exact HD.out i hik
                · obtain rfl : i = k := by omega
                  exact ⟨_, HE.out, by rw [HQ.out, HO.out, tb]; rfl⟩)
              go_wp2_with (go_at_call 52
                           with_reducible refine HPg.out.mono ?_
                           rintro e w2 ⟨rfl, hB2⟩
                           have hB02 := HB.out.trans (hB2.mono HB.out.size)
                           have hM2 := HM.out.below hB02
                           have c39 := hM2.cpgs
                           have hml := hM2.lt
                           obtain ⟨b, o, e0, hb, x0, x1, x2⟩ := pg_at hM2.row j hj
                           cases e0
                           rw [HQ.out] at x1
                           have H2 := Lib.hid hB02
                           clear hB2 hB02 hM2)
              go_roundw
              case rel => exact ⟨k + 1, by omega, by go_num, HN.out, H2.out⟩
              case measure => simp [intOf]; omega
            · have HVF := Lib.hid (HF.out k hlt (fun f hf => by rw [HE.out] at hf; cases hf; rw [HQ.out, HO.out, tb]; rfl))
              go_wp2_with (go_at_call 52
                           with_reducible refine HPg.out.mono ?_
                           rintro e w2 ⟨rfl, hB2⟩
                           have hB02 := HB.out.trans (hB2.mono HB.out.size)
                           have hM2 := HM.out.below hB02
                           have c39 := hM2.cpgs
                           have hml := hM2.lt
                           obtain ⟨b, o, e0, hb, x0, x1, x2⟩ := pg_at hM2.row j hj
                           cases e0
                           rw [HQ.out] at x1
                           have H2 := Lib.hid hB02
                           clear hB2 hB02 hM2)
              go_ret
              exact ⟨by rw [HVF.out]; rfl, H2.out⟩
        · have t3 : decide ((k : Int) < (n : Int)) = false := decide_eq_false (by omega)
          obtain rfl : k = n := by omega
          have HVT := Lib.hid (HT.out hd)
          clear hd
          go_wp2_with fail
          go_ret
          exact ⟨by rw [HVT.out]; rfl, hB⟩
set_option maxRecDepth 20000 in
set_option maxHeartbeats 8000000 in
theorem r3load_any (hM : RefAt w m PA pc ov iv s) (at_ n : Nat) (hat : at_ + n ≤ 281474976710656) (hn : n ≤ 8) (hp : ∀ i, i < n → ∃ f, pageOf s.fs (at_ + i) = some f) :
    Calls Tryz.prog 34 #[.pointer (some ⟨m, 0, none⟩), .int .u64 (at_ : Int), .int .i64 (n : Int)] w fun e w' => e = .returned (.int .u64 ((numM s.fs at_ n : Nat) : Int)) ∧ Below w.heap.size w w' := by
  have HM := Lib.hid hM
  have HP := Lib.hid hp
  have hfew := hM.few
  have hs1 : IntKind.i64.wrap ((n : Int) - 1) = (n : Int) - 1 := by rw [IntKind.wrap_i64]; omega
  clear hM hp
  go_enter Tryz.func34, Tryz.ntmps34
  go_wp2_with fail
  go_loopw [7, 8] (fun v i wr => ∃ (j x : Nat), j ≤ n ∧ i = .int .i64 ((j : Int) - 1) ∧ v = .int .u64 (x : Int) ∧ x = numM s.fs (at_ + j) (n - j) ∧ Below w.heap.size w wr) (fun _ i _ => (intOf i + 1).toNat)
  case atStart => exact ⟨n, 0, Nat.le_refl _, rfl, rfl, by rw [Nat.sub_self]; rfl, Below.refl _ _⟩
  case round =>
    obtain ⟨j, x, hj, rfl, rfl, hx, hB⟩ := hrel
    by_cases hlt : 0 < j
    · obtain ⟨k, rfl⟩ : ∃ k, j = k + 1 := ⟨j - 1, by omega⟩
      have ek : ((k + 1 : Nat) : Int) - 1 = (k : Int) := by omega
      rw [ek]
      have t1 : decide ((0 : Int) ≤ (k : Int)) = true := decide_eq_true (by omega)
      obtain ⟨a, ha⟩ : ∃ a : Nat, at_ + k = a := ⟨_, rfl⟩
      have hw3 : IntKind.u64.wrap (k : Int) = (k : Int) := by rw [IntKind.wrap_u64]; omega
      have hw4 : IntKind.u64.wrap ((at_ : Int) + (k : Int)) = (a : Int) := by rw [IntKind.wrap_u64]; omega
      have hw5 : (at_ : Int) + (k : Int) = (a : Int) := by omega
      have hxl := numM_lt s.fs (at_ + (k + 1)) (n - (k + 1))
      rw [← hx] at hxl
      have hx7 : x < 72057594037927936 := Nat.lt_of_lt_of_le hxl (Nat.le_trans (Nat.pow_le_pow_right (by decide) (show n - (k + 1) ≤ 7 by omega)) (by decide))
      obtain ⟨q, hq⟩ : ∃ q : Nat, x * 256 = q := ⟨_, rfl⟩
      have hw6 : IntKind.u64.wrap ((x : Int) * 256) = (q : Int) := by rw [IntKind.wrap_u64]; omega
      have hw7 : (x : Int) * 256 = (q : Int) := by omega
      obtain ⟨f, hf⟩ := HP.out k (by omega)
      rw [ha] at hf
      rcases ixF_spec s.fs (a / 4096 * 4096) 0 with ⟨e1, e2⟩ | ⟨i, hi, e1, e2⟩
      · unfold pageOf at hf
        rw [e2] at hf
        cases hf
      · rw [Int.zero_add] at e1
        have hfi : pageOf s.fs a = some s.fs[i] := e2
        have hMr := HM.out.below hB
        have hPg0 := r3page_any wr.drew m PA pc ov iv s (hMr.below (Below.refl _ _).drew) a (by omega)
        rw [e1] at hPg0
        obtain ⟨ix, hix⟩ : ∃ ix : Nat, a % 4096 = ix := ⟨_, rfl⟩
        have hixl : ix < 4096 := by omega
        have hw8 : (a : Int) % 4096 = (ix : Int) := by omega
        have htm : (a : Int).tmod 4096 = (ix : Int) := by rw [Int.tmod_eq_emod_of_nonneg (by omega)]; exact hw8
        have hq64 : IntKind.u64.wrap (q : Int) = (q : Int) := by rw [IntKind.wrap_u64]; omega
        have hixu4 : (ix : Int) < 4096 := by omega
        have hF := hMr.pages s.fs[i] (List.getElem_mem hi)
        have hil : ix < s.fs[i].data.length := by rw [hF.1]; exact hixl
        have hbt : byteM s.fs a = (s.fs[i].data[ix]'hil).toNat := by
          unfold byteM
          rw [hfi, hix]
          simp [List.getD, hF.1, hixl]
        obtain ⟨bt, hbt2⟩ : ∃ bt : Nat, byteM s.fs a = bt := ⟨_, rfl⟩
        have hbl : bt < 256 := by rw [← hbt2]; exact byteM_lt _ _
        have hor := up_byte x bt (by omega) hbl
        have hb64 : IntKind.u64.wrap (bt : Int) = (bt : Int) := by rw [IntKind.wrap_u64]; omega
        rw [hq] at hor
        obtain ⟨r, hr⟩ : ∃ r : Nat, q + bt = r := ⟨_, rfl⟩
        rw [hr] at hor
        have HN := Lib.hid (show r = numM s.fs (at_ + k) (n - k) from by
          rw [show n - k = (n - (k + 1)) + 1 by omega, numM_low, ← hr, ← hq, hx, ha, hbt2, show at_ + (k + 1) = a + 1 by omega]
          omega)
        have c39 := hMr.cpgs
        have hml := hMr.lt
        have HPg := Lib.hid hPg0
        have hiu : (i : Int) < (s.fs.length : Int) := by omega
        have HMr := Lib.hid (And.intro hMr hB)
        have HBT := Lib.hid (And.intro hbt hbt2)
        have HFd := Lib.hid hF
        have hdl : s.fs[i].data.length = 4096 := hF.1
        obtain ⟨dl, hdl2⟩ : ∃ dl, s.fs[i].data.length = dl := ⟨_, rfl⟩
        have hdl3 : dl = 4096 := by omega
        have HDL := Lib.hid hdl2
        have hixu : (ix : Int) < (dl : Int) := by omega
        have HIX := Lib.hid (And.intro hixl hdl)
        clear hf e1 e2 hfi hPg0 hix hF hbt hbt2 hr hMr hB hx hxl hq ha hdl hdl2
        go_wp2_with fail
        go_region_law (go_simp
                       go_at_call 52
                       with_reducible refine HPg.out.mono ?_
                       rintro e w3 ⟨rfl, hB3⟩
                       have hB13 : Below wr.heap.size wr w3 := ((Below.refl wr.heap.size wr).drew).trans (hB3.mono (Nat.le_refl _))
                       have hM3 := HMr.out.1.below hB13
                       have c39' := hM3.cpgs
                       have hml3 := hM3.lt
                       obtain ⟨b, o, e0, hb, x0, x1, x2⟩ := pg_at hM3.row i hi
                       cases e0
                       rw [HDL.out] at x2
                       have x3 := (hM3.pages s.fs[i] (List.getElem_mem hi)).cell ix hil
                       rw [← HBT.out.1, HBT.out.2] at x3
                       have hbk : (s.fs[i]).blk < w3.heap.size := by obtain ⟨_, _, _, cur, h4, _⟩ := hM3.pages s.fs[i] (List.getElem_mem hi); exact lt_of_block h4
                       have H3 := Lib.hid (HMr.out.2.trans (hB13.mono HMr.out.2.size))
                       clear hB3 hB13 hM3)
        all_goals
          go_wp2_with fail
          go_roundw
          case rel => exact ⟨k, r, by omega, by go_num, rfl, HN.out, H3.out⟩
          case measure => first | (simp [intOf]; done) | (simp [intOf]; omega)
    · obtain rfl : j = 0 := by omega
      have t1 : decide ((0 : Int) ≤ ((0 : Nat) : Int) - 1) = false := by decide
      rw [Nat.add_zero, Nat.sub_zero] at hx
      have HX := Lib.hid hx
      clear hx
      go_wp2_with fail
      go_ret
      exact ⟨by rw [← HX.out]; rfl, hB⟩
end
end Go.Proofs

/- The reference machine (patinaref03): a byte is written; store, fault. -/
namespace Go.Pat
open Go Go.RowKit
theorem pcells_setB (fs : List Fr) (a : Nat) (c : UInt8) : pcells ((setB fs a c).map frP) = pcells (fs.map frP) := by
  induction fs with
  | nil => rfl
  | cons f r ih =>
    have h1 : (frP (if f.base = a / 4096 * 4096 then { f with data := f.data.set (a % 4096) c } else f)).cells = (frP f).cells := by
      split
      · simp [frP, PgIn.cells]
      · rfl
    show (frP (if f.base = a / 4096 * 4096 then { f with data := f.data.set (a % 4096) c } else f)).cells ++ pcells ((setB r a c).map frP) = (frP f).cells ++ pcells (r.map frP)
    rw [h1, ih]
end Go.Pat
namespace Go.Proofs
open Go Go.RowKit Go.Pat
section
variable {w : World} {m : Nat} {PA : Option Addr} {pc : Nat} {ov iv : Value} {s : Ms}
theorem RefAt.setB (h : RefAt w m PA pc ov iv s) {a : Nat} {f : Fr} (hf : pageOf s.fs a = some f) (c : UInt8) :
    RefAt (w.setCell ⟨f.blk, a % 4096, none⟩ (.int .u8 (c.toNat : Int))) m PA pc ov iv { s with fs := setB s.fs a c } := by
  have hmem : f ∈ s.fs := List.mem_of_find?_eq_some hf
  have hbase : f.base = a / 4096 * 4096 := by have := List.find?_some hf; simpa using this
  obtain ⟨hl, hc1, hc2, cur, hcur, hcs, hci⟩ := h.pages f hmem
  have hm : m ≠ f.blk := by
    intro e
    obtain ⟨_, -, this⟩ := h.cells
    rw [e, hcur] at this
    simp at this
  have hk : ∀ k, k ≠ f.blk → (w.setCell ⟨f.blk, a % 4096, none⟩ (.int .u8 (c.toNat : Int))).heap[k]? = w.heap[k]? := fun k hk => Below.heap_setCell w ⟨f.blk, a % 4096, none⟩ _ k hk
  have hsz : (w.setCell ⟨f.blk, a % 4096, none⟩ (.int .u8 (c.toNat : Int))).heap.size = w.heap.size := by simp [World.setCell]
  have hgb : ∀ x, PA = some x → x.block ≠ f.blk := fun x hx e => by
    obtain ⟨cur2, hc⟩ := h.rowb x hx
    rw [e, hcur] at hc
    cases hc
  refine ⟨?_, ?_, fun x hx => ?_, ?_, ?_, ?_, ?_, ?_, h.len, h.small, h.pc, ?_, ?_, h.rng, ?_, ?_⟩
  · obtain ⟨oc, ho, hcc⟩ := h.cells
    refine ⟨oc, ho, ?_⟩
    show _ = some (Obj.cells (mcells s.c oc (.slice PA (Pat.setB s.fs a c).length pc) iv).toArray 42 (0, 0))
    rw [setB_length]
    exact (hk m hm).trans hcc
  · show Cs _ _ PA (pcells ((Pat.setB s.fs a c).map frP))
    rw [pcells_setB]
    intro j hj
    obtain ⟨b, o, rfl, hb, hx⟩ := h.row j hj
    refine ⟨b, o, rfl, by rw [hsz]; exact hb, ?_⟩
    rw [← hx]
    exact World.cell?_of_block (hk b (hgb _ rfl))
  · obtain ⟨cur2, hc⟩ := h.rowb x hx
    exact ⟨cur2, (hk _ (hgb x hx)).trans hc⟩
  · intro g hg
    obtain ⟨g0, hg0, rfl⟩ := List.mem_map.1 hg
    by_cases hb : g0.base = a / 4096 * 4096
    · have hgf : g0 = f := by
        have hi := List.pairwise_map.1 h.keys
        by_cases e : g0 = f
        · exact e
        · exfalso
          rcases List.getElem_of_mem hg0 with ⟨i, hi1, hi2⟩
          rcases List.getElem_of_mem hmem with ⟨j, hj1, hj2⟩
          have hij : i ≠ j := by rintro rfl; exact e (hi2.symm.trans hj2)
          have := List.pairwise_iff_getElem.1 hi
          rcases Nat.lt_or_gt_of_ne hij with hlt | hlt
          · exact this i j hi1 hj1 hlt (by rw [hi2, hj2, hb, hbase])
          · exact this j i hj1 hi1 hlt (by rw [hi2, hj2, hb, hbase])
      subst hgf
      rw [if_pos hb]
      refine ⟨by simpa using hl, hc1, hc2, cur.setIfInBounds (a % 4096) (.int .u8 (c.toNat : Int)), ?_, by simpa using hcs, ?_⟩
      · have := hcur
        simp [World.setCell, Array.getElem?_modify, this]
      · intro i hi
        simp only [List.length_set] at hi
        have hia := hci i hi
        by_cases e : a % 4096 = i
        · subst e
          have hlt : a % 4096 < cur.size := by rw [hcs]; omega
          simp [hlt]
        · simp [e, hia]
    · rw [if_neg hb]
      refine (h.pages g0 hg0).keep (hk _ ?_)
      intro e
      have hgf : g0 ≠ f := by rintro rfl; exact hb hbase
      rcases List.getElem_of_mem hg0 with ⟨i, hi1, hi2⟩
      rcases List.getElem_of_mem hmem with ⟨j, hj1, hj2⟩
      have hij : i ≠ j := by rintro rfl; exact hgf (hi2.symm.trans hj2)
      have := List.pairwise_iff_getElem.1 (List.pairwise_map.1 h.apart)
      rcases Nat.lt_or_gt_of_ne hij with hlt | hlt
      · exact this i j hi1 hj1 hlt (by rw [hi2, hj2]; exact e)
      · exact this j i hj1 hi1 hlt (by rw [hi2, hj2]; exact e.symm)
  · show ((Pat.setB s.fs a c).map (·.blk)).Nodup
    rw [setB_blk]; exact h.apart
  · show ((Pat.setB s.fs a c).map (·.base)).Nodup
    rw [setB_base]; exact h.keys
  · intro g hg
    obtain ⟨g0, hg0, rfl⟩ := List.mem_map.1 hg
    have := h.low g0 hg0
    split <;> exact this
  · show (Pat.setB s.fs a c).length ≤ 4096
    rw [setB_length]; exact h.few
  · exact h.out.keep fun g hg => hk g (fun e => h.apO g hg (by rw [e]; exact List.mem_map_of_mem hmem))
  · exact h.inn.keep fun g hg => hk g (fun e => (h.apI g hg).1 (by rw [e]; exact List.mem_map_of_mem hmem))
  · intro g hg
    show g ∉ (Pat.setB s.fs a c).map (·.blk)
    rw [setB_blk]; exact h.apO g hg
  · intro g hg
    refine ⟨?_, (h.apI g hg).2⟩
    show g ∉ (Pat.setB s.fs a c).map (·.blk)
    rw [setB_blk]; exact (h.apI g hg).1
end
section
variable (w : World) (m : Nat) (PA : Option Addr) (pc : Nat) (ov iv : Value) (s : Ms)
set_option maxRecDepth 20000 in
set_option maxHeartbeats 8000000 in
theorem r3store_any (hM : RefAt w m PA pc ov iv s) (at_ n v : Nat) (hat : at_ + n ≤ 281474976710656) (hn : n ≤ 8) (hv : v < 18446744073709551616) (hp : ∀ i, i < n → ∃ f, pageOf s.fs (at_ + i) = some f) :
    Calls Tryz.prog 38 #[.pointer (some ⟨m, 0, none⟩), .int .u64 (at_ : Int), .int .i64 (n : Int), .int .u64 (v : Int)] w fun e w' =>
      e = .returned (.tuple #[]) ∧ RefAt w' m PA pc ov iv { s with fs := storeTo s.fs at_ v n } ∧ KeptBut (fun b => b ∈ s.fs.map (·.blk)) w w' := by
  have HM := Lib.hid hM
  have HP := Lib.hid hp
  clear hM hp
  go_enter Tryz.func38, Tryz.ntmps38
  go_wp2_with fail
  go_loopw [8] (fun i wr => ∃ j : Nat, j ≤ n ∧ i = .int .i64 j ∧ RefAt wr m PA pc ov iv { s with fs := storeTo s.fs at_ v j } ∧ KeptBut (fun b => b ∈ s.fs.map (·.blk)) w wr) (fun i _ => n - (intOf i).toNat)
  case atStart => exact ⟨0, by omega, rfl, HM.out, .refl _ _⟩
  case round =>
    obtain ⟨j, hj, rfl, hMj, hKj⟩ := hrel
    by_cases hlt : j < n
    · have t1 : decide ((j : Int) < (n : Int)) = true := decide_eq_true (by omega)
      obtain ⟨f0, hf0⟩ := HP.out j hlt
      obtain ⟨f, hf, hfb0, -, -⟩ := pageOf_store hf0 at_ v j
      have hS : f.blk ∈ s.fs.map (·.blk) := by rw [hfb0]; exact List.mem_map.2 ⟨f0, List.mem_of_find?_eq_some hf0, rfl⟩
      obtain ⟨a, ha⟩ : ∃ a : Nat, at_ + j = a := ⟨_, rfl⟩
      have hw3 : IntKind.u64.wrap (j : Int) = (j : Int) := by rw [IntKind.wrap_u64]; omega
      have hw4 : IntKind.u64.wrap ((at_ : Int) + (j : Int)) = (a : Int) := by rw [IntKind.wrap_u64]; omega
      have hw5 : (at_ : Int) + (j : Int) = (a : Int) := by omega
      obtain ⟨ix, hix⟩ : ∃ ix : Nat, a % 4096 = ix := ⟨_, rfl⟩
      have hixl : ix < 4096 := by omega
      have hw8 : (a : Int) % 4096 = (ix : Int) := by omega
      have htm : (a : Int).tmod 4096 = (ix : Int) := by rw [Int.tmod_eq_emod_of_nonneg (by omega)]; exact hw8
      have hixu4 : (ix : Int) < 4096 := by omega
      obtain ⟨sh, hsh⟩ : ∃ sh : Nat, 8 * j = sh := ⟨_, rfl⟩
      have hsh1 : 8 * (j : Int) = (sh : Int) := by omega
      have hsh2 : IntKind.i64.wrap (8 * (j : Int)) = (sh : Int) := by rw [IntKind.wrap_i64]; omega
      have hsh3 : IntKind.u64.wrap (sh : Int) = (sh : Int) := by rw [IntKind.wrap_u64]; omega
      have hsh4 : sh < 64 := by omega
      have hsh5 : IntKind.i64.wrap (sh : Int) = (sh : Int) := by rw [IntKind.wrap_i64]; omega
      obtain ⟨q, hq⟩ : ∃ q : Nat, v / 256 ^ j = q := ⟨_, rfl⟩
      have hqi : (v : Int) / 2 ^ sh = (q : Int) := by rw [← hsh, ← hq, pow_256, Int.natCast_ediv, Int.natCast_pow]; rfl
      have hqf : (v : Int).fdiv (2 ^ sh) = (q : Int) := by rw [Int.fdiv_eq_ediv_of_nonneg _ (Int.le_of_lt (Int.pow_pos (by decide)))]; exact hqi
      have s2 : ∀ W : World, (Op.shift .shr .u64 (v : Int) .u64 (sh : Int)).run Tryz.prog W = .ok (.int .u64 (q : Int)) W := fun W => by rw [run_shr .u64 .u64 (v : Int) (sh : Int) sh rfl hsh4 W, hqf]
      obtain ⟨c, hc⟩ : ∃ c : UInt8, UInt8.ofNat q = c := ⟨_, rfl⟩
      have hcv : (q : Int) % 256 = ((c.toNat : Nat) : Int) := by rw [← hc, UInt8.toNat_ofNat']; omega
      have hcw : IntKind.u8.wrap (q : Int) = ((c.toNat : Nat) : Int) := by rw [← hcv]; rfl
      have HST := Lib.hid (show storeTo s.fs at_ v (j + 1) = Pat.setB (storeTo s.fs at_ v j) a c by rw [storeTo, ha, hq, hc])
      obtain ⟨ct, hct⟩ : ∃ ct : Nat, c.toNat = ct := ⟨_, rfl⟩
      rw [hct] at hcv hcw
      have HCT := Lib.hid hct
      rw [ha] at hf
      obtain ⟨fs2, hfs⟩ : ∃ l, storeTo s.fs at_ v j = l := ⟨_, rfl⟩
      rw [hfs] at hf hMj HST
      have HFS := Lib.hid (show fs2.map (·.blk) = s.fs.map (·.blk) from by rw [← hfs, storeTo_blk])
      rcases ixF_spec fs2 (a / 4096 * 4096) 0 with ⟨e1, e2⟩ | ⟨i, hi, e1, e2⟩
      · unfold pageOf at hf
        rw [e2] at hf
        cases hf
      · rw [Int.zero_add] at e1
        have hfi : fs2[i] = f := by unfold pageOf at hf; rw [e2] at hf; exact Option.some.inj hf
        have hPg0 := r3page_any wr.drew m PA pc ov iv _ (hMj.below (Below.refl _ _).drew) a (by omega)
        have hPg1 : Calls Tryz.prog 52 #[.pointer (some ⟨m, 0, none⟩), .int .u64 (a : Int)] wr.drew fun e w' => e = .returned (.int .i64 (i : Int)) ∧ Below wr.drew.heap.size wr.drew w' := by
          rw [← e1]; exact hPg0
        have c39 : wr.cell? ⟨m, 39, none⟩ = some (.slice PA fs2.length pc) := hMj.cpgs
        have hml := hMj.lt
        have HPg := Lib.hid hPg1
        have hfew : fs2.length ≤ 4096 := hMj.few
        have hiu : (i : Int) < (fs2.length : Int) := by omega
        have HMj := Lib.hid (And.intro hMj (And.intro hKj (And.intro hf hS)))
        have HIX := Lib.hid hix
        have HFI := Lib.hid hfi
        clear hPg0 hPg1 e1 e2 hfi hMj hKj hf hS hfs hct hc hq ha hix hf0 hfb0 hsh
        go_wp2_with fail
        go_region_law (go_simp
                       go_at_call 52
                       with_reducible refine HPg.out.mono ?_
                       rintro e w3 ⟨rfl, hB3⟩
                       have hB13 : Below wr.heap.size wr w3 := ((Below.refl wr.heap.size wr).drew).trans (hB3.mono (Nat.le_refl _))
                       have hM3 := HMj.out.1.below hB13
                       have c39' : w3.cell? ⟨m, 39, none⟩ = some (.slice PA fs2.length pc) := hM3.cpgs
                       have hml3 := hM3.lt
                       obtain ⟨b, o, e0, hb, x0, x1, x2⟩ := pg_at (l := fs2) hM3.row i hi
                       cases e0
                       rw [HFI.out] at x2
                       have hF3 : FrIn w3 f := hM3.pages f (List.mem_of_find?_eq_some HMj.out.2.2.1)
                       rw [hF3.1] at x2
                       obtain ⟨bv, x3⟩ : ∃ z : Int, w3.cell? ⟨f.blk, ix, none⟩ = some (.int .u8 z) := ⟨_, hF3.cell ix (by rw [hF3.1]; exact hixl)⟩
                       have x3f := hF3.frozen ix
                       have hbk := hF3.lt
                       have H3 := Lib.hid (And.intro hM3 (HMj.out.2.1.trans (.of_below hB13)))
                       clear hB3 hB13 hM3 hF3)
        all_goals
          go_wp2_with fail
          go_roundw
          case rel =>
            refine ⟨j + 1, by omega, by go_num, ?_, H3.out.2.setCell _ HMj.out.2.2.2 _⟩
            have h9 := H3.out.1.setB (a := a) (f := f) HMj.out.2.2.1 c
            rw [HIX.out, HCT.out] at h9
            rw [HST.out]
            exact h9
          case measure => simp [intOf]; omega
    · have t1 : decide ((j : Int) < (n : Int)) = false := decide_eq_false (by omega)
      obtain rfl : j = n := by omega
      have HE := Lib.hid (And.intro hMj hKj)
      clear hMj hKj
      go_wp2_with fail
      go_end0
      exact ⟨rfl, HE.out.1, HE.out.2⟩
set_option maxHeartbeats 4000000 in
theorem r3fault_any (hM : RefAt w m PA pc ov iv s) (f : Int) : Calls Tryz.prog 32 #[.pointer (some ⟨m, 0, none⟩), .int .i64 f] w fun e w' =>
    e = .returned (.int .i64 f) ∧ w' = w.setCell ⟨m, 36, none⟩ (.int .i64 f) := by
  have c36 := hM.cfault
  have f36 := hM.fz 36
  have hml := hM.lt
  clear hM
  go_enter Tryz.func32, Tryz.ntmps32
  go_wp2
  go_ret
  exact ⟨rfl, rfl⟩
end
end Go.Proofs

/- The reference machine (patinaref03): width, sign, loaded. (Printed by wip/tools/gen_refl.py.) -/
namespace Go.Pat
open Go Go.RowKit
theorem ldV_11 (v : Nat) (hv : v < 256) : ldV 11 v = if v < 128 then v else v + 18446744073709551360 := by
  have h : ldV 11 v = wrN ((wrap64 (IntKind.u64.wrap ((v : Int) * 72057594037927936))).fdiv 72057594037927936) := rfl
  rw [h, Int.fdiv_eq_ediv_of_nonneg _ (by decide), IntKind.wrap_u64]
  unfold wrN wrap64
  split <;> omega
theorem ldV_12 (v : Nat) (hv : v < 65536) : ldV 12 v = if v < 32768 then v else v + 18446744073709486080 := by
  have h : ldV 12 v = wrN ((wrap64 (IntKind.u64.wrap ((v : Int) * 281474976710656))).fdiv 281474976710656) := rfl
  rw [h, Int.fdiv_eq_ediv_of_nonneg _ (by decide), IntKind.wrap_u64]
  unfold wrN wrap64
  split <;> omega
theorem ldV_13 (v : Nat) (hv : v < 4294967296) : ldV 13 v = if v < 2147483648 then v else v + 18446744069414584320 := by
  have h : ldV 13 v = wrN ((wrap64 (IntKind.u64.wrap ((v : Int) * 4294967296))).fdiv 4294967296) := rfl
  rw [h, Int.fdiv_eq_ediv_of_nonneg _ (by decide), IntKind.wrap_u64]
  unfold wrN wrap64
  split <;> omega
theorem ldV_wide (op v : Nat) (h : 14 ≤ op) (hv : v < 18446744073709551616) : ldV op v = v := by
  have h := ldV_el op v h
  rw [IntKind.wrap_u64, IntKind.wrap_u64] at h
  unfold wrap64 at h
  omega
end Go.Pat
namespace Go.Proofs
open Go Go.RowKit Go.Pat
theorem orHi_11 (v : Nat) (hv : v < 256) : bits BinOp.or IntKind.u64 (v : Int) 18446744073709551360 = ((v + 18446744073709551360 : Nat) : Int) := by
  have h := u64_or_nat v 18446744073709551360 (by omega) (by decide)
  rw [Nat.or_comm, nat_join 8 18446744073709551360 v (by decide) hv] at h
  rw [Nat.add_comm] at h
  exact h
theorem sign3_k11 (v : Nat) (hv : v < 256) (w : World) : Calls Tryz.prog 56 #[.int .u64 (v : Int), .int .u64 8] w fun e w' => e = .returned (.int .u64 ((ldV 11 v : Nat) : Int)) ∧ w' = w := by
  have hsh := fun (W : World) => run_shr (P := Tryz.prog) .u64 .u64 (v : Int) 7 7 rfl (by decide) W
  have HV := Lib.hid (ldV_11 v hv)
  have hk : IntKind.u64.wrap 4722366482869645213440 = 18446744073709551360 := by rw [IntKind.wrap_u64]; decide
  have HK := Lib.hid (And.intro hk (orHi_11 v hv))
  clear hk
  by_cases h : v < 128
  · have e0 : (v : Int) / 128 = 0 := by omega
    have hb : (bits BinOp.and IntKind.u64 ((v : Int) / 128) 1 == 1) = false := by rw [e0]; decide
    clear e0
    go_enter Tryz.func56, Tryz.ntmps56
    go_wp2
    go_ret
    refine ⟨congrArg (fun z => Ending.returned (Value.int IntKind.u64 z)) ?_, rfl⟩
    rw [HV.out, if_pos h]
  · have e0 : (v : Int) / 128 = 1 := by omega
    have hb : (bits BinOp.and IntKind.u64 ((v : Int) / 128) 1 == 1) = true := by rw [e0]; decide
    clear e0
    go_enter Tryz.func56, Tryz.ntmps56
    go_wp2
    go_ret
    refine ⟨congrArg (fun z => Ending.returned (Value.int IntKind.u64 z)) ?_, rfl⟩
    rw [HV.out, if_neg h]
    first | exact HK.out.2 | (rw [HK.out.1]; exact HK.out.2)
theorem orHi_12 (v : Nat) (hv : v < 65536) : bits BinOp.or IntKind.u64 (v : Int) 18446744073709486080 = ((v + 18446744073709486080 : Nat) : Int) := by
  have h := u64_or_nat v 18446744073709486080 (by omega) (by decide)
  rw [Nat.or_comm, nat_join 16 18446744073709486080 v (by decide) hv] at h
  rw [Nat.add_comm] at h
  exact h
theorem sign3_k12 (v : Nat) (hv : v < 65536) (w : World) : Calls Tryz.prog 56 #[.int .u64 (v : Int), .int .u64 16] w fun e w' => e = .returned (.int .u64 ((ldV 12 v : Nat) : Int)) ∧ w' = w := by
  have hsh := fun (W : World) => run_shr (P := Tryz.prog) .u64 .u64 (v : Int) 15 15 rfl (by decide) W
  have HV := Lib.hid (ldV_12 v hv)
  have hk : IntKind.u64.wrap 1208925819614629174640640 = 18446744073709486080 := by rw [IntKind.wrap_u64]; decide
  have HK := Lib.hid (And.intro hk (orHi_12 v hv))
  clear hk
  by_cases h : v < 32768
  · have e0 : (v : Int) / 32768 = 0 := by omega
    have hb : (bits BinOp.and IntKind.u64 ((v : Int) / 32768) 1 == 1) = false := by rw [e0]; decide
    clear e0
    go_enter Tryz.func56, Tryz.ntmps56
    go_wp2
    go_ret
    refine ⟨congrArg (fun z => Ending.returned (Value.int IntKind.u64 z)) ?_, rfl⟩
    rw [HV.out, if_pos h]
  · have e0 : (v : Int) / 32768 = 1 := by omega
    have hb : (bits BinOp.and IntKind.u64 ((v : Int) / 32768) 1 == 1) = true := by rw [e0]; decide
    clear e0
    go_enter Tryz.func56, Tryz.ntmps56
    go_wp2
    go_ret
    refine ⟨congrArg (fun z => Ending.returned (Value.int IntKind.u64 z)) ?_, rfl⟩
    rw [HV.out, if_neg h]
    first | exact HK.out.2 | (rw [HK.out.1]; exact HK.out.2)
theorem orHi_13 (v : Nat) (hv : v < 4294967296) : bits BinOp.or IntKind.u64 (v : Int) 18446744069414584320 = ((v + 18446744069414584320 : Nat) : Int) := by
  have h := u64_or_nat v 18446744069414584320 (by omega) (by decide)
  rw [Nat.or_comm, nat_join 32 18446744069414584320 v (by decide) hv] at h
  rw [Nat.add_comm] at h
  exact h
theorem sign3_k13 (v : Nat) (hv : v < 4294967296) (w : World) : Calls Tryz.prog 56 #[.int .u64 (v : Int), .int .u64 32] w fun e w' => e = .returned (.int .u64 ((ldV 13 v : Nat) : Int)) ∧ w' = w := by
  have hsh := fun (W : World) => run_shr (P := Tryz.prog) .u64 .u64 (v : Int) 31 31 rfl (by decide) W
  have HV := Lib.hid (ldV_13 v hv)
  have hk : IntKind.u64.wrap 79228162514264337589248983040 = 18446744069414584320 := by rw [IntKind.wrap_u64]; decide
  have HK := Lib.hid (And.intro hk (orHi_13 v hv))
  clear hk
  by_cases h : v < 2147483648
  · have e0 : (v : Int) / 2147483648 = 0 := by omega
    have hb : (bits BinOp.and IntKind.u64 ((v : Int) / 2147483648) 1 == 1) = false := by rw [e0]; decide
    clear e0
    go_enter Tryz.func56, Tryz.ntmps56
    go_wp2
    go_ret
    refine ⟨congrArg (fun z => Ending.returned (Value.int IntKind.u64 z)) ?_, rfl⟩
    rw [HV.out, if_pos h]
  · have e0 : (v : Int) / 2147483648 = 1 := by omega
    have hb : (bits BinOp.and IntKind.u64 ((v : Int) / 2147483648) 1 == 1) = true := by rw [e0]; decide
    clear e0
    go_enter Tryz.func56, Tryz.ntmps56
    go_wp2
    go_ret
    refine ⟨congrArg (fun z => Ending.returned (Value.int IntKind.u64 z)) ?_, rfl⟩
    rw [HV.out, if_neg h]
    first | exact HK.out.2 | (rw [HK.out.1]; exact HK.out.2)
theorem sign3_k14 (v : Nat) (hv : v < 18446744073709551616) (w : World) : Calls Tryz.prog 56 #[.int .u64 (v : Int), .int .u64 64] w fun e w' => e = .returned (.int .u64 ((ldV 14 v : Nat) : Int)) ∧ w' = w := by
  have HV := Lib.hid (ldV_wide 14 v (by decide) hv)
  clear hv
  go_enter Tryz.func56, Tryz.ntmps56
  go_wp2
  go_ret
  exact ⟨by rw [HV.out]; rfl, rfl⟩
def widN (op : Nat) : Nat := if 18 ≤ op then 2 ^ (op - 18) else ldN op
set_option maxHeartbeats 4000000 in
theorem r3width_any (op : Nat) (h : 11 ≤ op ∧ op ≤ 21) (w : World) : Calls Tryz.prog 36 #[.int .i64 (op : Int)] w fun e w' => e = .returned (.int .i64 ((widN op : Nat) : Int)) ∧ w' = w := by
  rcases (show op = 11 ∨ op = 12 ∨ op = 13 ∨ op = 14 ∨ op = 15 ∨ op = 16 ∨ op = 17 ∨ op = 18 ∨ op = 19 ∨ op = 20 ∨ op = 21 by omega) with rfl | rfl | rfl | rfl | rfl | rfl | rfl | rfl | rfl | rfl | rfl
  all_goals
    clear h
    go_enter Tryz.func36, Tryz.ntmps36
    go_wp2
    go_ret
    exact ⟨rfl, rfl⟩
section
variable (w : World) (m : Nat) (PA : Option Addr) (pc : Nat) (ov iv : Value) (s : Ms)
set_option maxRecDepth 20000 in
set_option maxHeartbeats 8000000 in
theorem r3loaded_any (hM : RefAt w m PA pc ov iv s) (op at_ : Nat) (ho : 11 ≤ op ∧ op ≤ 17) (hat : at_ + ldN op ≤ 281474976710656) (hp : ∀ i, i < ldN op → ∃ f, pageOf s.fs (at_ + i) = some f) :
    Calls Tryz.prog 37 #[.pointer (some ⟨m, 0, none⟩), .int .i64 (op : Int), .int .u64 (at_ : Int)] w fun e w' => e = .returned (.int .u64 ((ldV op (numM s.fs at_ (ldN op)) : Nat) : Int)) ∧ Below w.heap.size w w' := by
  have hn : ldN op ≤ 8 := by
    rcases (show op = 11 ∨ op = 12 ∨ op = 13 ∨ op = 14 ∨ op = 15 ∨ op = 16 ∨ op = 17 by omega) with rfl | rfl | rfl | rfl | rfl | rfl | rfl <;> decide
  have HL0 := r3load_any w m PA pc ov iv s hM at_ (ldN op) hat hn hp
  have hv := numM_lt s.fs at_ (ldN op)
  generalize numM s.fs at_ (ldN op) = v at *
  clear hM hp hn
  rcases (show op = 11 ∨ op = 12 ∨ op = 13 ∨ op = 14 ∨ op = 15 ∨ op = 16 ∨ op = 17 by omega) with rfl | rfl | rfl | rfl | rfl | rfl | rfl
  · have HL := Lib.hid (show Calls Tryz.prog 34 #[.pointer (some ⟨m, 0, none⟩), .int .u64 (at_ : Int), .int .i64 1] w fun e w' => e = .returned (.int .u64 (v : Int)) ∧ Below w.heap.size w w' from HL0)
    have HS := Lib.hid (fun W => sign3_k11 v hv W)
    have HW := Lib.hid (show ∀ W : World, Calls Tryz.prog 36 #[.int .i64 11] W fun e w' => e = .returned (.int .i64 1) ∧ w' = W from fun W => r3width_any 11 (by decide) W)
    clear HL0 hv ho hat
    go_enter Tryz.func37, Tryz.ntmps37
    go_wp2_with (first
      | (go_at_call 36; (with_reducible refine (HW.out _).mono ?_); rintro e w' ⟨rfl, rfl⟩)
      | (go_at_call 34; (with_reducible refine HL.out.mono ?_); rintro e w2 ⟨rfl, hB2⟩)
      | (go_at_call 56; (with_reducible refine (HS.out _).mono ?_); rintro e w' ⟨rfl, rfl⟩))
    go_ret
    exact ⟨rfl, hB2⟩
  · have HL := Lib.hid (show Calls Tryz.prog 34 #[.pointer (some ⟨m, 0, none⟩), .int .u64 (at_ : Int), .int .i64 2] w fun e w' => e = .returned (.int .u64 (v : Int)) ∧ Below w.heap.size w w' from HL0)
    have HS := Lib.hid (fun W => sign3_k12 v hv W)
    have HW := Lib.hid (show ∀ W : World, Calls Tryz.prog 36 #[.int .i64 12] W fun e w' => e = .returned (.int .i64 2) ∧ w' = W from fun W => r3width_any 12 (by decide) W)
    clear HL0 hv ho hat
    go_enter Tryz.func37, Tryz.ntmps37
    go_wp2_with (first
      | (go_at_call 36; (with_reducible refine (HW.out _).mono ?_); rintro e w' ⟨rfl, rfl⟩)
      | (go_at_call 34; (with_reducible refine HL.out.mono ?_); rintro e w2 ⟨rfl, hB2⟩)
      | (go_at_call 56; (with_reducible refine (HS.out _).mono ?_); rintro e w' ⟨rfl, rfl⟩))
    go_ret
    exact ⟨rfl, hB2⟩
  · have HL := Lib.hid (show Calls Tryz.prog 34 #[.pointer (some ⟨m, 0, none⟩), .int .u64 (at_ : Int), .int .i64 4] w fun e w' => e = .returned (.int .u64 (v : Int)) ∧ Below w.heap.size w w' from HL0)
    have HS := Lib.hid (fun W => sign3_k13 v hv W)
    have HW := Lib.hid (show ∀ W : World, Calls Tryz.prog 36 #[.int .i64 13] W fun e w' => e = .returned (.int .i64 4) ∧ w' = W from fun W => r3width_any 13 (by decide) W)
    clear HL0 hv ho hat
    go_enter Tryz.func37, Tryz.ntmps37
    go_wp2_with (first
      | (go_at_call 36; (with_reducible refine (HW.out _).mono ?_); rintro e w' ⟨rfl, rfl⟩)
      | (go_at_call 34; (with_reducible refine HL.out.mono ?_); rintro e w2 ⟨rfl, hB2⟩)
      | (go_at_call 56; (with_reducible refine (HS.out _).mono ?_); rintro e w' ⟨rfl, rfl⟩))
    go_ret
    exact ⟨rfl, hB2⟩
  · have HL := Lib.hid (show Calls Tryz.prog 34 #[.pointer (some ⟨m, 0, none⟩), .int .u64 (at_ : Int), .int .i64 8] w fun e w' => e = .returned (.int .u64 (v : Int)) ∧ Below w.heap.size w w' from HL0)
    have HS := Lib.hid (fun W => sign3_k14 v hv W)
    have HW := Lib.hid (show ∀ W : World, Calls Tryz.prog 36 #[.int .i64 14] W fun e w' => e = .returned (.int .i64 8) ∧ w' = W from fun W => r3width_any 14 (by decide) W)
    clear HL0 hv ho hat
    go_enter Tryz.func37, Tryz.ntmps37
    go_wp2_with (first
      | (go_at_call 36; (with_reducible refine (HW.out _).mono ?_); rintro e w' ⟨rfl, rfl⟩)
      | (go_at_call 34; (with_reducible refine HL.out.mono ?_); rintro e w2 ⟨rfl, hB2⟩)
      | (go_at_call 56; (with_reducible refine (HS.out _).mono ?_); rintro e w' ⟨rfl, rfl⟩))
    go_ret
    exact ⟨rfl, hB2⟩
  · have HL := Lib.hid (show Calls Tryz.prog 34 #[.pointer (some ⟨m, 0, none⟩), .int .u64 (at_ : Int), .int .i64 1] w fun e w' => e = .returned (.int .u64 (v : Int)) ∧ Below w.heap.size w w' from HL0)
    have HV := Lib.hid (ldV_wide 15 v (by decide) (Nat.lt_trans hv (by decide)))
    have HW := Lib.hid (show ∀ W : World, Calls Tryz.prog 36 #[.int .i64 15] W fun e w' => e = .returned (.int .i64 1) ∧ w' = W from fun W => r3width_any 15 (by decide) W)
    clear HL0 hv ho hat
    go_enter Tryz.func37, Tryz.ntmps37
    go_wp2_with (first
      | (go_at_call 36; (with_reducible refine (HW.out _).mono ?_); rintro e w' ⟨rfl, rfl⟩)
      | (go_at_call 34; (with_reducible refine HL.out.mono ?_); rintro e w2 ⟨rfl, hB2⟩))
    go_ret
    exact ⟨by rw [HV.out]; rfl, hB2⟩
  · have HL := Lib.hid (show Calls Tryz.prog 34 #[.pointer (some ⟨m, 0, none⟩), .int .u64 (at_ : Int), .int .i64 2] w fun e w' => e = .returned (.int .u64 (v : Int)) ∧ Below w.heap.size w w' from HL0)
    have HV := Lib.hid (ldV_wide 16 v (by decide) (Nat.lt_trans hv (by decide)))
    have HW := Lib.hid (show ∀ W : World, Calls Tryz.prog 36 #[.int .i64 16] W fun e w' => e = .returned (.int .i64 2) ∧ w' = W from fun W => r3width_any 16 (by decide) W)
    clear HL0 hv ho hat
    go_enter Tryz.func37, Tryz.ntmps37
    go_wp2_with (first
      | (go_at_call 36; (with_reducible refine (HW.out _).mono ?_); rintro e w' ⟨rfl, rfl⟩)
      | (go_at_call 34; (with_reducible refine HL.out.mono ?_); rintro e w2 ⟨rfl, hB2⟩))
    go_ret
    exact ⟨by rw [HV.out]; rfl, hB2⟩
  · have HL := Lib.hid (show Calls Tryz.prog 34 #[.pointer (some ⟨m, 0, none⟩), .int .u64 (at_ : Int), .int .i64 4] w fun e w' => e = .returned (.int .u64 (v : Int)) ∧ Below w.heap.size w w' from HL0)
    have HV := Lib.hid (ldV_wide 17 v (by decide) (Nat.lt_trans hv (by decide)))
    have HW := Lib.hid (show ∀ W : World, Calls Tryz.prog 36 #[.int .i64 17] W fun e w' => e = .returned (.int .i64 4) ∧ w' = W from fun W => r3width_any 17 (by decide) W)
    clear HL0 hv ho hat
    go_enter Tryz.func37, Tryz.ntmps37
    go_wp2_with (first
      | (go_at_call 36; (with_reducible refine (HW.out _).mono ?_); rintro e w' ⟨rfl, rfl⟩)
      | (go_at_call 34; (with_reducible refine HL.out.mono ?_); rintro e w2 ⟨rfl, hB2⟩))
    go_ret
    exact ⟨by rw [HV.out]; rfl, hB2⟩
end
end Go.Proofs
