/- patinaref02.find, asked: the pages' answers. -/
import Derived.Test.YtkgnodlhdilmoaaLoadP
import Derived.BigQuiet
import Derived.Test.YtkgnodlhdilmoaaCpu
namespace Go.Pat
open Go Go.RowKit
def hasB (at_ : Nat) (p : Pgd) : Bool := decide (p.base ≤ at_) && decide (at_ - p.base < 4096)
def findI (ps : List Pgd) (at_ : Nat) : Int := match ps.findIdx? (hasB at_) with | some k => (k : Int) | none => -1
theorem find_found {ps : List Pgd} {at_ k : Nat} (hk : k < ps.length) (hno : ∀ i, (h : i < k) → hasB at_ (ps[i]'(by omega)) = false) (hy : hasB at_ ps[k] = true) : findI ps at_ = (k : Int) := by
  unfold findI
  have : ps.findIdx? (hasB at_) = some k := by
    rw [List.findIdx?_eq_some_iff_getElem]
    exact ⟨hk, hy, fun j hj => by rw [hno j hj]; decide⟩
  rw [this]
theorem find_none {ps : List Pgd} {at_ : Nat} (hno : ∀ i, (h : i < ps.length) → hasB at_ ps[i] = false) : findI ps at_ = -1 := by
  unfold findI
  have : ps.findIdx? (hasB at_) = none := by
    rw [List.findIdx?_eq_none_iff]
    intro x hx
    obtain ⟨i, hi, rfl⟩ := List.getElem_of_mem hx
    exact hno i hi
  rw [this]
end Go.Pat
namespace Go.Proofs
open Go Go.RowKit Go.Pat

set_option maxRecDepth 20000 in
set_option maxHeartbeats 4000000 in
theorem rfind2_any (w : World) (A : Option Addr) (cap n at_ B : Nat) (ps : List PgIn) (hP : PgsAt B w A ps) (hn : ps.length = n) (hat : at_ < 18446744073709551616) :
    Calls Try.prog 93 #[.slice A n cap, .int .u64 at_] w fun e w' => e = .returned (.int .i64 (findI (ps.map PgIn.pg) at_)) ∧ w = w' := by
  have hfew := hP.few
  rw [hn] at hfew
  have HN := Lib.hid hn
  clear hn
  go_enter Try.func93, Try.ntmps93
  go_wp2_with fail
  go_loopw [5] (fun i wr => ∃ j : Nat, j ≤ n ∧ i = .int .i64 j ∧ (∀ k, (h : k < (ps.map PgIn.pg).length) → k < j → hasB at_ (ps.map PgIn.pg)[k] = false) ∧ w = wr) (fun i _ => n - (intOf i).toNat)
  case atStart => exact ⟨0, by omega, rfl, fun k _ hk => by omega, rfl⟩
  case round =>
    obtain ⟨j, hj, rfl, hno, rfl⟩ := hrel
    have HNO := Lib.hid hno
    clear hno
    by_cases hlt : j < n
    · have hd3 : decide ((j : Int) < (n : Int)) = true := decide_eq_true (by omega)
      have hji : (j : Int) < (n : Int) := by omega
      have hj1 : j < ps.length := by rw [HN.out]; exact hlt
      obtain ⟨b, o, rfl, hb, p0, p1, p2⟩ := hP.cells j hj1
      obtain ⟨x, hx⟩ : ∃ x, x = ps[j] := ⟨_, rfl⟩
      rw [← hx] at p0
      have hxs := (hP.small x (by rw [hx]; exact List.getElem_mem _)).1
      have hxd : (ps.map PgIn.pg)[j]'(by rw [List.length_map]; exact hj1) = x.pg := by rw [hx, List.getElem_map]
      have HX := Lib.hid hxd
      clear hx hxd p1 p2
      by_cases ha : x.base ≤ at_
      · have ta : decide (x.base ≤ at_) = true := decide_eq_true ha
        have ew : IntKind.u64.wrap ((at_ : Int) - (x.base : Int)) = ((at_ - x.base : Nat) : Int) := by rw [IntKind.wrap_u64]; omega
        obtain ⟨df, hdf⟩ : ∃ df, df = at_ - x.base := ⟨_, rfl⟩
        rw [← hdf] at ew
        have hsub : (at_ : Int) - (x.base : Int) = (df : Int) := by omega
        by_cases hs : df < 4096
        · have ts : decide ((df : Int) < 4096) = true := decide_eq_true (by omega)
          have ts2 : decide (df < 4096) = true := decide_eq_true hs
          have HF := Lib.hid (find_found (ps := ps.map PgIn.pg) (by rw [List.length_map]; exact hj1) (fun i h => HNO.out i (by rw [List.length_map]; omega) h) (by rw [HX.out]; show (decide (x.base ≤ at_) && decide (at_ - x.base < 4096)) = true; rw [← hdf, ta, ts2]; rfl))
          clear ha hs hdf
          go_wp2
          go_ret
          exact ⟨by rw [HF.out]; rfl, rfl⟩
        · have ts : decide ((df : Int) < 4096) = false := decide_eq_false (by omega)
          have ts2 : decide (df < 4096) = false := decide_eq_false hs
          have HM := Lib.hid (show hasB at_ x.pg = false by show (decide (x.base ≤ at_) && decide (at_ - x.base < 4096)) = false; rw [← hdf, ta, ts2]; rfl)
          clear ha hs hdf
          go_wp2
          go_roundw
          case rel =>
            refine ⟨j + 1, by omega, by go_num, fun k h hk => ?_, trivial⟩
            by_cases e : k = j
            · subst e; rw [HX.out]; exact HM.out
            · exact HNO.out k h (by omega)
          case measure => simp [intOf]; omega
      · have ta : decide (x.base ≤ at_) = false := decide_eq_false ha
        have HM := Lib.hid (show hasB at_ x.pg = false by show (decide (x.base ≤ at_) && decide (at_ - x.base < 4096)) = false; rw [ta]; rfl)
        clear ha
        go_wp2
        go_roundw
        case rel =>
          refine ⟨j + 1, by omega, by go_num, fun k h hk => ?_, trivial⟩
          by_cases e : k = j
          · subst e; rw [HX.out]; exact HM.out
          · exact HNO.out k h (by omega)
        case measure => simp [intOf]; omega
    · have hd3 : decide ((j : Int) < (n : Int)) = false := decide_eq_false (by omega)
      obtain rfl : j = n := by omega
      have HF := Lib.hid (find_none (ps := ps.map PgIn.pg) (at_ := at_) (fun i h => HNO.out i h (by rw [List.length_map, HN.out] at h; exact h)))
      go_wp2
      go_ret
      exact ⟨by rw [HF.out]; rfl, rfl⟩
end Go.Proofs

/- patinaref02.asked: what is wrong with a use of bytes: as mem's own asked says. -/
namespace Go.Pat
open Go Go.RowKit
/-- pages that are right. -/
structure PsOK (ps : List Pgd) : Prop where
  ok : ∀ p ∈ ps, PgOK p
  rises : ps.Pairwise (fun a b => a.base < b.base)
theorem psOK_of {ps : List Pgd} (h : fromE ps = 0) : PsOK ps := by
  unfold fromE at h
  split at h
  · cases h
  · refine ⟨fun p hp => ?_, List.pairwise_iff_getElem.2 fun i j hi hj hij => wrongTo_rises (Nat.le_refl _) h i j hj hij⟩
    obtain ⟨k, hk, rfl⟩ := List.getElem_of_mem hp
    obtain ⟨h1, h2, -, h4, h5⟩ := wrongAt_ok hk (wrongTo_ok h k hk)
    exact ⟨h1, h2, h4, h5⟩
theorem hasB_iff {p : Pgd} (hp : p.base % 4096 = 0) (a : Nat) : hasB a p = true ↔ a / 4096 * 4096 = p.base := by
  unfold hasB
  simp only [Bool.and_eq_true, decide_eq_true_eq]
  omega
theorem find_page {fs : List Fr} {ps : List Pgd} (hfs : fs.map Fr.pg = ps) (hp : PsOK ps) (a : Nat) :
    (pageOf fs a = none ∧ findI ps a = -1) ∨ (∃ f k, ∃ hk : k < ps.length, pageOf fs a = some f ∧ ps[k] = f.pg ∧ findI ps a = (k : Int)) := by
  cases hf : pageOf fs a with
  | none =>
    refine .inl ⟨rfl, find_none fun i hi => ?_⟩
    cases hb : hasB a ps[i] with
    | false => rfl
    | true =>
      have h1 := (hasB_iff (hp.ok _ (List.getElem_mem hi)).page a).1 hb
      obtain ⟨f, h2, -⟩ := pageOf_of hfs hp.rises (List.getElem_mem hi) h1
      rw [hf] at h2; cases h2
  | some f =>
    have hm : f.pg ∈ ps := by rw [← hfs]; exact List.mem_map.2 ⟨f, List.mem_of_find?_eq_some hf, rfl⟩
    have hb := pageOf_base hf
    obtain ⟨k, hk, he⟩ := List.getElem_of_mem hm
    refine .inr ⟨f, k, hk, rfl, he, find_found hk (fun i hi => ?_) ?_⟩
    · cases hx : hasB a (ps[i]'(by omega)) with
      | false => rfl
      | true =>
        have h1 := (hasB_iff (hp.ok _ (List.getElem_mem (by omega))).page a).1 hx
        have h2 := List.pairwise_iff_getElem.1 hp.rises i k (by omega) hk hi
        have h3 : ps[k].base = f.base := by rw [he]; rfl
        omega
    · rw [hasB_iff (hp.ok _ (List.getElem_mem hk)).page a, he]
      exact hb.symm
theorem askTo_21 {fs : List Fr} {at_ : Nat} {perm : Int} {n : Nat} (hall : ∀ i, i < n → ∃ f, pageOf fs (at_ + i) = some f) {j : Nat} (hj : j < n) {f : Fr} (hf : pageOf fs (at_ + j) = some f) (hp : pOK f.perm perm = false) : askTo fs at_ perm n = 21 := by
  induction n with
  | zero => omega
  | succ n ih =>
    obtain ⟨g, hg⟩ := hall n (by omega)
    have hn20 : ∀ k, k ≤ n → askTo fs at_ perm k ≠ 20 := by
      intro k
      induction k with
      | zero => intro _; simp [askTo]
      | succ k ihk =>
        intro hk
        obtain ⟨g2, hg2⟩ := hall k (by omega)
        rw [askTo, if_neg (ihk (by omega)), hg2]
        simp only
        split
        · exact ihk (by omega)
        · decide
    rw [askTo, if_neg (hn20 n (Nat.le_refl _)), hg]
    simp only
    split
    · rename_i hgp
      by_cases e : j = n
      · subst e
        rw [hf] at hg
        cases hg
        rw [hp] at hgp; cases hgp
      · exact ih (fun i hi => hall i (by omega)) (by omega)
    · rfl
theorem askTo_missing {fs : List Fr} {at_ : Nat} {perm : Int} {n j : Nat} (hj : j < n) (hf : pageOf fs (at_ + j) = none) : askTo fs at_ perm n = 20 :=
  askTo_20 fs at_ perm (j + 1) n (by simp [askTo, hf]) (by omega)
end Go.Pat
namespace Go.Proofs
open Go Go.RowKit Go.Pat

theorem rfind2_int (w : World) (A : Option Addr) (cap n at_ B : Nat) (ps : List PgIn) (hP : PgsAt B w A ps) (hn : ps.length = n) (z : Int) (hz : z = (at_ : Int)) (hat : at_ < 18446744073709551616) :
    Calls Try.prog 93 #[.slice A n cap, .int .u64 z] w fun e w' => e = .returned (.int .i64 (findI (ps.map PgIn.pg) at_)) ∧ w = w' := by
  subst hz
  exact rfind2_any w A cap n at_ B ps hP hn hat

set_option maxRecDepth 100000 in
set_option maxHeartbeats 4000000 in
theorem rasked2_any (w : World) (A : Option Addr) (cap n at_ m B : Nat) (perm : Int) (ps : List PgIn) (fs : List Fr) (hP : PgsAt B w A ps) (hn : ps.length = n) (hfs : fs.map Fr.pg = ps.map PgIn.pg) (hok : PsOK (ps.map PgIn.pg)) (hat : at_ < 18446744073709551616) (hm : m < 1000000) :
    Calls Try.prog 80 #[.slice A n cap, .int .u64 at_, .int .i64 m, .int .i64 perm] w fun e w' => e = .returned (.int .i64 (askedM fs at_ m perm)) ∧ w = w' := by
  by_cases h : 281474976710656 ≤ at_ ∨ 281474976710656 - at_ < m
  · have HF := Lib.hid (show askedM fs at_ m perm = 1 by unfold askedM; rw [if_pos h])
    by_cases h1 : 281474976710656 ≤ at_
    · have hd : decide ((281474976710656 : Int) ≤ (at_ : Int)) = true := by simp; omega
      clear h
      go_enter Try.func80, Try.ntmps80
      go_wp2
      go_ret
      exact ⟨by rw [HF.out]; rfl, rfl⟩
    · have hd : decide ((281474976710656 : Int) ≤ (at_ : Int)) = false := by simp; omega
      have hd2 : decide ((281474976710656 : Int) - (at_ : Int) < (m : Int)) = true := by simp; omega
      clear h
      go_enter Try.func80, Try.ntmps80
      go_wp2
      go_ret
      exact ⟨by rw [HF.out]; rfl, rfl⟩
  · have HE := Lib.hid (show askedM fs at_ m perm = askTo fs at_ perm m by unfold askedM; rw [if_neg h])
    have h1 : at_ + m ≤ 281474976710656 := by omega
    have hd : decide ((281474976710656 : Int) ≤ (at_ : Int)) = false := by simp; omega
    have hd2 : decide ((281474976710656 : Int) - (at_ : Int) < (m : Int)) = false := by simp; omega
    clear h
    have HN := Lib.hid (And.intro hn (And.intro hfs hok))
    clear hn hfs hok
    go_enter Try.func80, Try.ntmps80
    go_wp2_with fail
    go_loopw [9] (fun i wr => ∃ j : Nat, j ≤ m ∧ i = .int .i64 j ∧ (∀ k, k < j → ∃ f, pageOf fs (at_ + k) = some f) ∧ w = wr) (fun i _ => m - (intOf i).toNat)
    case atStart => exact ⟨0, by omega, rfl, fun k hk => by omega, rfl⟩
    case round =>
      obtain ⟨j, hj, rfl, hall, rfl⟩ := hrel
      have HA := Lib.hid hall
      clear hall
      by_cases hlt : j < m
      · have hd3 : decide ((j : Int) < (m : Int)) = true := decide_eq_true (by omega)
        go_wp2_with fail
        refine Calls.mono (rfind2_int w A cap n (at_ + j) B ps hP HN.out.1 _ (by omega) (by omega)) ?_
        rintro e w' ⟨rfl, rfl⟩
        rcases find_page HN.out.2.1 HN.out.2.2 (at_ + j) with ⟨h2, h3⟩ | ⟨f, k, hk, h2, h3, h4⟩
        · have HF := Lib.hid (HE.out.trans (askTo_missing hlt h2))
          rw [h3]
          clear h2 h3
          go_wp2
          go_ret
          exact ⟨by rw [HF.out]; rfl, rfl⟩
        · have HF := Lib.hid h2
          rw [h4]
          have hneg : decide ((k : Int) < 0) = false := decide_eq_false (by omega)
          clear h2 h3 h4
          go_wp2
          go_roundw
          case rel =>
            refine ⟨j + 1, by omega, by go_num, fun i hi => ?_, trivial⟩
            by_cases e : i = j
            · subst e; exact ⟨f, HF.out⟩
            · exact HA.out i (by omega)
          case measure => simp [intOf]; omega
      · have hd3 : decide ((j : Int) < (m : Int)) = false := decide_eq_false (by omega)
        obtain rfl : j = m := by omega
        go_wp2_with fail
        go_loopw [10] (fun i wr => ∃ q : Nat, q ≤ j ∧ i = .int .i64 q ∧ askTo fs at_ perm q = 0 ∧ w = wr) (fun i _ => j - (intOf i).toNat)
        case atStart => exact ⟨0, by omega, rfl, rfl, rfl⟩
        case round =>
          obtain ⟨q, hq, rfl, h0, rfl⟩ := hrel
          have H0 := Lib.hid h0
          clear h0
          by_cases hlt2 : q < j
          · have hd4 : decide ((q : Int) < (j : Int)) = true := decide_eq_true (by omega)
            obtain ⟨f0, hf0⟩ := HA.out q hlt2
            rcases find_page HN.out.2.1 HN.out.2.2 (at_ + q) with ⟨h2, h3⟩ | ⟨f, k, hk, h2, h3, h4⟩
            · rw [hf0] at h2; cases h2
            · have hkp : k < ps.length := by rw [List.length_map] at hk; exact hk
              obtain ⟨b, o, rfl, hb, p0, p1, p2⟩ := hP.cells k hkp
              have hkn : (k : Int) < (n : Int) := by have := HN.out.1; omega
              have hk0 : (0 : Int) ≤ (k : Int) := by omega
              have hpe : ps[k].perm = f.perm := by
                rw [List.getElem_map] at h3
                exact congrArg Pgd.perm h3
              rw [hpe] at p1
              have HF := Lib.hid (And.intro h2 h4)
              have HALL := HA
              clear h2 h3 h4 hf0 p0 p2 hpe
              go_wp2_with fail
              refine Calls.mono (rfind2_int w _ cap n (at_ + q) B ps hP HN.out.1 _ (by omega) (by omega)) ?_
              rintro e w' ⟨rfl, rfl⟩
              rw [HF.out.2]
              cases hp : pOK f.perm perm with
              | true =>
                have hp2 : (bits BinOp.and IntKind.i64 f.perm perm != perm) = false := by unfold pOK at hp; simp [bne, hp]
                have HS := Lib.hid (show askTo fs at_ perm (q + 1) = 0 by rw [askTo, if_neg (by rw [H0.out]; decide), HF.out.1]; simp only; rw [if_pos hp]; exact H0.out)
                clear hp
                go_wp2
                go_roundw
                case rel => exact ⟨q + 1, by omega, by go_num, HS.out, trivial⟩
                case measure => simp [intOf]; omega
              | false =>
                have hp2 : (bits BinOp.and IntKind.i64 f.perm perm != perm) = true := by unfold pOK at hp; simp [bne, hp]
                have HS := Lib.hid (HE.out.trans (askTo_21 HA.out hlt2 HF.out.1 hp))
                clear hp
                go_wp2
                go_ret
                exact ⟨by rw [HS.out]; rfl, rfl⟩
          · have hd4 : decide ((q : Int) < (j : Int)) = false := decide_eq_false (by omega)
            obtain rfl : q = j := by omega
            have HS := Lib.hid (HE.out.trans H0.out)
            go_wp2
            go_ret
            exact ⟨by rw [HS.out]; rfl, rfl⟩
end Go.Proofs

/- patinaref02.byteAt, number, Load, Fetch. -/
namespace Go.Pat
open Go Go.RowKit
theorem numM_front (fs : List Fr) (a k : Nat) : numM fs a (k + 1) = numM fs (a + 1) k * 256 + byteM fs a := by
  induction k with
  | zero => simp [numM]
  | succ k ih =>
    rw [numM, ih, numM, Nat.pow_succ, show a + 1 + k = a + (k + 1) by omega, Nat.add_mul]
    rw [← Nat.mul_assoc]
    omega
end Go.Pat
namespace Go.Proofs
open Go Go.RowKit Go.Pat

set_option maxRecDepth 20000 in
set_option maxHeartbeats 4000000 in
theorem rbyteAt2_any (w : World) (A : Option Addr) (cap n at_ : Nat) (ps : List PgIn) (fs : List Fr) (hP : PgsAt w.heap.size w A ps) (hn : ps.length = n) (hfs : fs.map Fr.pg = ps.map PgIn.pg) (hok : PsOK (ps.map PgIn.pg)) (z : Int) (hz : z = (at_ : Int)) (hat : at_ < 18446744073709551616) (f : Fr) (hf : pageOf fs at_ = some f) :
    Calls Try.prog 87 #[.slice A n cap, .int .u64 z] w fun e w' => e = .returned (.int .u8 (byteM fs at_ : Nat)) ∧ Below w.heap.size w w' := by
  have HZ := Lib.hid hz
  subst hz
  have HN := Lib.hid (And.intro hn (And.intro hfs hok))
  rcases find_page hfs hok at_ with ⟨h2, h3⟩ | ⟨g, k, hk, h2, h3, h4⟩
  · rw [hf] at h2; cases h2
  · rw [hf] at h2
    cases h2
    have hkp : k < ps.length := by rw [List.length_map] at hk; exact hk
    obtain ⟨b, o, rfl, hb, p0, p1, p2⟩ := hP.cells k hkp
    have hkn : (k : Int) < (n : Int) := by omega
    have hk0 : (0 : Int) ≤ (k : Int) := by omega
    obtain ⟨x, hx⟩ : ∃ x, x = ps[k] := ⟨_, rfl⟩
    have hxm : x ∈ ps := by rw [hx]; exact List.getElem_mem _
    have hbx := hP.bytes x hxm
    rw [← hx] at p0 p1 p2
    have hxe : x.pg = f.pg := by rw [List.getElem_map] at h3; rw [hx]; exact h3
    have hO := hok.ok x.pg (by rw [hxe, ← h3]; exact List.getElem_mem _)
    have hl : x.data.length = 4096 := hO.len
    have hbase : x.base = at_ / 4096 * 4096 := by have h5 := pageOf_base hf; have h6 := congrArg Pgd.base hxe; have h7 : x.base = f.base := h6; omega
    have hdat : x.data = f.data := congrArg Pgd.data hxe
    have hm : at_ % 4096 < x.data.length := by rw [hl]; exact Nat.mod_lt _ (by decide)
    obtain ⟨b2, o2, hA2, hb2, hc2⟩ := hbx.at_ (at_ % 4096) hm
    have hby : byteM fs at_ = (x.data[at_ % 4096]).toNat := by
      unfold byteM
      rw [hf]
      simp only
      rw [← hdat, List.getD_eq_getElem?_getD, List.getElem?_eq_getElem hm]
      rfl
    rw [hA2] at p2
    obtain ⟨df, hdf⟩ : ∃ df, df = at_ % 4096 := ⟨_, rfl⟩
    have hsub : (at_ : Int) - (x.base : Int) = (df : Int) := by omega
    have hdl : (df : Int) < 4096 := by omega
    rw [hl] at p2
    have hc3 : ∀ W, Below w.heap.size w W → W.cell? ⟨b2, o2 + df, none⟩ = some (.int .u8 (byteM fs at_ : Nat)) := fun W h => by
      rw [h.cell (p := ⟨b2, o2 + df, none⟩) hb2, hdf, hc2, hby]
    have hBn : Below w.heap.size w (w.alloc (.cells #[.int .u64 (x.base : Int), .int .i64 x.perm, .slice (some ⟨b2, o2, none⟩) 4096 x.cap] 71)) := (Below.refl _ _).alloc (Nat.le_refl _) _
    have hc4 := hc3 _ hBn
    have HB := Lib.hid (And.intro hx (And.intro hbase (And.intro hdat (And.intro hby hdf))))
    have HF := Lib.hid h4
    clear hx hbase hdat hby hc2 hc3 hA2 hxe h3 h4 hfs hn hok hf hl hdf
    go_enter Try.func87, Try.ntmps87
    go_wp2_with fail
    refine Calls.mono (rfind2_any w _ cap n at_ _ ps hP HN.out.1 hat) ?_
    rintro e w' ⟨rfl, rfl⟩
    rw [HF.out]
    go_wp2
    go_ret
    exact ⟨rfl, hBn⟩

set_option maxHeartbeats 4000000 in
theorem rnumber2_any (w : World) (A : Option Addr) (cap n at_ m : Nat) (ps : List PgIn) (fs : List Fr) (hP : PgsAt w.heap.size w A ps) (hn : ps.length = n) (hfs : fs.map Fr.pg = ps.map PgIn.pg) (hok : PsOK (ps.map PgIn.pg)) (hat : at_ + m ≤ 281474976710656) (hm : m ≤ 8) (hp : ∀ i, i < m → ∃ f, pageOf fs (at_ + i) = some f) :
    Calls Try.prog 81 #[.slice A n cap, .int .u64 at_, .int .i64 m] w fun e w' => e = .returned (.int .u64 (numM fs at_ m : Nat)) ∧ Below w.heap.size w w' := by
  have HN := Lib.hid (And.intro hn (And.intro hfs (And.intro hok hp)))
  clear hn hfs hok hp
  go_enter Try.func81, Try.ntmps81
  go_wp2_with fail
  go_loopw [7, 8] (fun q i wr => ∃ r : Nat, r ≤ m ∧ i = .int .i64 ((r : Int) - 1) ∧ q = .int .u64 (numM fs (at_ + r) (m - r) : Nat) ∧ Below w.heap.size w wr) (fun _ i _ => (intOf i + 1).toNat)
  case atStart => exact ⟨m, by omega, rfl, by simp [numM], Below.refl _ _⟩
  case round =>
    obtain ⟨r, hrn, rfl, rfl, hB⟩ := hrel
    cases r with
    | succ r =>
      rw [show ((r + 1 : Nat) : Int) - 1 = (r : Int) by omega]
      have hd : decide ((0 : Int) ≤ (r : Int)) = true := decide_eq_true (by omega)
      obtain ⟨f, hf⟩ := HN.out.2.2.2 r (by omega)
      have hby := byteM_lt fs (at_ + r)
      obtain ⟨q, hq⟩ : ∃ q, q = numM fs (at_ + (r + 1)) (m - (r + 1)) := ⟨_, rfl⟩
      have hqv : q * 256 ≤ 18446744073709551615 - 255 := by
        have h1 := numM_lt fs (at_ + (r + 1)) (m - (r + 1))
        have h2 : 256 ^ (m - (r + 1)) ≤ 256 ^ 7 := Nat.pow_le_pow_right (by omega) (by omega)
        rw [hq]
        omega
      have hst : numM fs (at_ + r) (m - r) = q * 256 + byteM fs (at_ + r) := by
        rw [show m - r = (m - (r + 1)) + 1 by omega, numM_front, hq, show at_ + r + 1 = at_ + (r + 1) by omega]
      obtain ⟨bb, hbb⟩ : ∃ bb, bb = byteM fs (at_ + r) := ⟨_, rfl⟩
      rw [← hbb] at hst hby
      rw [← hq]
      have HST := Lib.hid (And.intro hst (And.intro hf hbb))
      clear hst hq hf hbb
      go_wp2_with fail
      refine Calls.mono (rbyteAt2_any wr A cap n (at_ + r) ps fs ((hP.below hB).mono hB.size) HN.out.1 HN.out.2.1 HN.out.2.2.1 _ (by omega) (by omega) f HST.out.2.1) ?_
      rintro e w' ⟨rfl, hB2⟩
      rw [← HST.out.2.2]
      go_wp2
      go_roundw
      case rel => exact ⟨r, by omega, by go_num, by rw [HST.out.1]; exact congrArg (Value.int .u64) (by omega), hB.trans (hB2.mono hB.size)⟩
      case measure => simp [intOf]
    | zero =>
      rw [show ((0 : Nat) : Int) - 1 = -1 by omega]
      go_wp2
      go_ret
      exact ⟨rfl, hB⟩
end Go.Proofs

/- patinaref02.Load, Fetch: the same numbers as mem's. -/
namespace Go.Proofs
open Go Go.RowKit Go.Pat

section
variable (w : World) (A : Option Addr) (cap n at_ m : Nat) (ps : List PgIn) (fs : List Fr) (hP : PgsAt w.heap.size w A ps) (hn : ps.length = n) (hfs : fs.map Fr.pg = ps.map PgIn.pg) (hok : PsOK (ps.map PgIn.pg)) (z : Int) (hz : z = (m : Int))
include hP hn hfs hok hz
theorem rasked2_int (perm : Int) (hat : at_ < 18446744073709551616) (hm : m < 1000000) :
    Calls Try.prog 80 #[.slice A n cap, .int .u64 at_, .int .i64 z, .int .i64 perm] w fun e w' => e = .returned (.int .i64 (askedM fs at_ m perm)) ∧ w = w' := by
  subst hz
  exact rasked2_any w A cap n at_ m _ perm ps fs hP hn hfs hok hat hm
theorem rnumber2_int (hat : at_ + m ≤ 281474976710656) (hm : m ≤ 8) (hp : ∀ i, i < m → ∃ f, pageOf fs (at_ + i) = some f) :
    Calls Try.prog 81 #[.slice A n cap, .int .u64 at_, .int .i64 z] w fun e w' => e = .returned (.int .u64 (numM fs at_ m : Nat)) ∧ Below w.heap.size w w' := by
  subst hz
  exact rnumber2_any w A cap n at_ m ps fs hP hn hfs hok hat hm hp
end

set_option maxHeartbeats 4000000 in
theorem rLoad2_any (w : World) (A : Option Addr) (cap n at_ : Nat) (z : Int) (ps : List PgIn) (fs : List Fr) (hP : PgsAt w.heap.size w A ps) (hn : ps.length = n) (hfs : fs.map Fr.pg = ps.map PgIn.pg) (hok : PsOK (ps.map PgIn.pg)) (hat : at_ < 18446744073709551616) :
    Calls Try.prog 42 #[.slice A n cap, .int .u64 at_, .int .i64 z] w fun e w' => e = .returned (.tuple #[.int .u64 ((loadM fs at_ z).1 : Nat), .int .i64 (loadM fs at_ z).2]) ∧ Below w.heap.size w w' := by
  have HN := Lib.hid (And.intro hn (And.intro hfs hok))
  clear hn hfs hok
  cases hw : wide z with
  | false =>
    have HF := Lib.hid (show loadM fs at_ z = (0, 1) by simp [loadM, hw])
    have h1 : (z != 1) = true ∧ (z != 2) = true ∧ (z != 4) = true ∧ (z != 8) = true := by
      simp only [wide, Bool.or_eq_false_iff, beq_eq_false_iff_ne] at hw
      simp only [bne_iff_ne]
      exact ⟨hw.1.1.1, hw.1.1.2, hw.1.2, hw.2⟩
    obtain ⟨e1, e2, e4, e8⟩ := h1
    clear hw
    go_enter Try.func42, Try.ntmps42
    go_wp2
    go_ret2
    exact ⟨by rw [HF.out]; rfl, Below.refl _ _⟩
  | true =>
    have hz : z = 1 ∨ z = 2 ∨ z = 4 ∨ z = 8 := by simp [wide] at hw; omega
    obtain ⟨m, hm, hm8⟩ : ∃ m : Nat, z = (m : Int) ∧ m ≤ 8 := ⟨z.toNat, by omega, by omega⟩
    have htn : z.toNat = m := by omega
    by_cases h0 : askedM fs at_ m 4 = 0
    · have HF := Lib.hid (show loadM fs at_ z = (numM fs at_ m, 0) by simp [loadM, hw, htn, h0])
      obtain ⟨z1, z2, z3⟩ := asked_zero h0
      have h0' : (askedM fs at_ m 4 != 0) = false := by simp [h0]
      have HM := Lib.hid (And.intro hm (fun i (hi : i < m) => (z3 i hi).imp fun _ h => h.1))
      clear h0 hw htn hm z3
      rcases hz with rfl | rfl | rfl | rfl
      all_goals
        go_enter Try.func42, Try.ntmps42
        go_wp2_with fail
        refine Calls.mono (rasked2_int w A cap n at_ m ps fs hP HN.out.1 HN.out.2.1 HN.out.2.2 _ HM.out.1 4 hat (by omega)) ?_
        rintro e w' ⟨rfl, rfl⟩
        go_wp2_with fail
        refine Calls.mono (rnumber2_int w A cap n at_ m ps fs hP HN.out.1 HN.out.2.1 HN.out.2.2 _ HM.out.1 z1 hm8 HM.out.2) ?_
        rintro e w2 ⟨rfl, hb2⟩
        go_wp2
        go_ret2
        exact ⟨by rw [HF.out]; rfl, hb2⟩
    · have HF := Lib.hid (show loadM fs at_ z = (0, askedM fs at_ m 4) by simp [loadM, hw, htn, h0])
      have h0' : (askedM fs at_ m 4 != 0) = true := by simp [h0]
      have HM := Lib.hid hm
      clear h0 hw htn hm
      rcases hz with rfl | rfl | rfl | rfl
      all_goals
        go_enter Try.func42, Try.ntmps42
        go_wp2_with fail
        refine Calls.mono (rasked2_int w A cap n at_ m ps fs hP HN.out.1 HN.out.2.1 HN.out.2.2 _ HM.out 4 hat (by omega)) ?_
        rintro e w' ⟨rfl, rfl⟩
        go_wp2
        go_ret2
        exact ⟨by rw [HF.out]; rfl, Below.refl _ _⟩
end Go.Proofs

/- (*Mem).Fetch and patinaref02.Fetch. -/
namespace Go.Proofs
open Go Go.RowKit Go.Pat

theorem asked_zint (w : World) (p mb : Nat) (fs : List Fr) (hM : MemAt w p mb fs) (at_ n : Nat) (z : Int) (hz : z = (n : Int)) (perm : Int) (hat : at_ < 18446744073709551616) (hn : n < 1000000) :
    Calls Try.prog 58 #[.pointer (some ⟨p, 0, none⟩), .int .u64 at_, .int .i64 z, .int .i64 perm] w fun e w' => e = .returned (.int .i64 (askedM fs at_ n perm)) ∧ Below w.heap.size w w' := by
  subst hz
  exact asked_all w p mb fs hM at_ n perm hat hn
theorem number_zint (w : World) (p mb : Nat) (fs : List Fr) (hM : MemAt w p mb fs) (at_ n : Nat) (z : Int) (hz : z = (n : Int)) (hat : at_ + n ≤ 281474976710656) (hn : n ≤ 8) (hp : ∀ i, i < n → ∃ f, pageOf fs (at_ + i) = some f) :
    Calls Try.prog 59 #[.pointer (some ⟨p, 0, none⟩), .int .u64 at_, .int .i64 z] w fun e w' => e = .returned (.int .u64 (numM fs at_ n)) ∧ Below w.heap.size w w' := by
  subst hz
  exact number_any w p mb fs hM at_ n hat hn hp

set_option maxHeartbeats 4000000 in
theorem Fetch_any (w : World) (p mb : Nat) (fs : List Fr) (hM : MemAt w p mb fs) (at_ : Nat) (hat : at_ < 18446744073709551616) :
    Calls Try.prog 43 #[.pointer (some ⟨p, 0, none⟩), .int .u64 at_] w fun e w' => e = .returned (.tuple #[.int .u32 ((fetchM fs at_).1 : Nat), .int .i64 (fetchM fs at_).2]) ∧ Below w.heap.size w w' := by
  by_cases hbad : at_ % 4 ≠ 0 ∨ 281474976710656 ≤ at_
  · have HF := Lib.hid (show fetchM fs at_ = (0, 1) by unfold fetchM; rw [if_pos hbad])
    by_cases h4 : at_ % 4 ≠ 0
    · have t1 : ((at_ : Int) % 4 != 0) = true := by simp only [bne_iff_ne]; omega
      clear hbad h4
      go_enter Try.func43, Try.ntmps43
      go_wp2
      go_ret2
      exact ⟨by rw [HF.out]; rfl, Below.refl _ _⟩
    · have t1 : ((at_ : Int) % 4 != 0) = false := by simp only [bne_eq_false_iff_eq]; omega
      have t2 : decide ((281474976710656 : Int) ≤ (at_ : Int)) = true := decide_eq_true (by omega)
      clear hbad h4
      go_enter Try.func43, Try.ntmps43
      go_wp2
      go_ret2
      exact ⟨by rw [HF.out]; rfl, Below.refl _ _⟩
  · have t1 : ((at_ : Int) % 4 != 0) = false := by simp only [bne_eq_false_iff_eq]; omega
    have t2 : decide ((281474976710656 : Int) ≤ (at_ : Int)) = false := decide_eq_false (by omega)
    by_cases h0 : askedM fs at_ 4 1 = 0
    · have HF := Lib.hid (show fetchM fs at_ = (numM fs at_ 4, 0) by unfold fetchM; rw [if_neg hbad, if_pos h0])
      obtain ⟨z1, z2, z3⟩ := asked_zero h0
      have h0' : (askedM fs at_ 4 1 != 0) = false := by simp [h0]
      have H3 := Lib.hid (fun i (hi : i < 4) => (z3 i hi).imp fun _ h => h.1)
      obtain ⟨q, hq⟩ : ∃ q, q = numM fs at_ 4 := ⟨_, rfl⟩
      have hql : q < 4294967296 := by rw [hq]; exact numM_lt fs at_ 4
      have HQ := Lib.hid hq
      clear h0 z3 hbad hq
      go_enter Try.func43, Try.ntmps43
      go_wp2_with fail
      refine Calls.mono (asked_zint w p mb fs hM at_ 4 _ (by rfl) 1 hat (by decide)) ?_
      rintro e w' ⟨rfl, hb⟩
      go_wp2_with fail
      refine Calls.mono (number_zint w' p mb fs (hM.below hM.lt hb) at_ 4 _ (by rfl) z1 (by decide) H3.out) ?_
      rintro e w2 ⟨rfl, hb2⟩
      rw [← HQ.out]
      go_wp2
      go_ret2
      exact ⟨by rw [HF.out, ← HQ.out]; rfl, hb.trans (hb2.mono hb.size)⟩
    · have HF := Lib.hid (show fetchM fs at_ = (0, askedM fs at_ 4 1) by unfold fetchM; rw [if_neg hbad, if_neg h0])
      have h0' : (askedM fs at_ 4 1 != 0) = true := by simp [h0]
      clear h0 hbad
      go_enter Try.func43, Try.ntmps43
      go_wp2_with fail
      refine Calls.mono (asked_zint w p mb fs hM at_ 4 _ (by rfl) 1 hat (by decide)) ?_
      rintro e w' ⟨rfl, hb⟩
      go_wp2
      go_ret2
      exact ⟨by rw [HF.out]; rfl, hb⟩

set_option maxHeartbeats 4000000 in
theorem rFetch2_any (w : World) (A : Option Addr) (cap n at_ : Nat) (ps : List PgIn) (fs : List Fr) (hP : PgsAt w.heap.size w A ps) (hn : ps.length = n) (hfs : fs.map Fr.pg = ps.map PgIn.pg) (hok : PsOK (ps.map PgIn.pg)) (hat : at_ < 18446744073709551616) :
    Calls Try.prog 44 #[.slice A n cap, .int .u64 at_] w fun e w' => e = .returned (.tuple #[.int .u32 ((fetchM fs at_).1 : Nat), .int .i64 (fetchM fs at_).2]) ∧ Below w.heap.size w w' := by
  have HN := Lib.hid (And.intro hn (And.intro hfs hok))
  clear hn hfs hok
  by_cases hbad : at_ % 4 ≠ 0 ∨ 281474976710656 ≤ at_
  · have HF := Lib.hid (show fetchM fs at_ = (0, 1) by unfold fetchM; rw [if_pos hbad])
    by_cases h4 : at_ % 4 ≠ 0
    · have t1 : ((at_ : Int) % 4 != 0) = true := by simp only [bne_iff_ne]; omega
      clear hbad h4
      go_enter Try.func44, Try.ntmps44
      go_wp2
      go_ret2
      exact ⟨by rw [HF.out]; rfl, Below.refl _ _⟩
    · have t1 : ((at_ : Int) % 4 != 0) = false := by simp only [bne_eq_false_iff_eq]; omega
      have t2 : decide ((281474976710656 : Int) ≤ (at_ : Int)) = true := decide_eq_true (by omega)
      clear hbad h4
      go_enter Try.func44, Try.ntmps44
      go_wp2
      go_ret2
      exact ⟨by rw [HF.out]; rfl, Below.refl _ _⟩
  · have t1 : ((at_ : Int) % 4 != 0) = false := by simp only [bne_eq_false_iff_eq]; omega
    have t2 : decide ((281474976710656 : Int) ≤ (at_ : Int)) = false := decide_eq_false (by omega)
    by_cases h0 : askedM fs at_ 4 1 = 0
    · have HF := Lib.hid (show fetchM fs at_ = (numM fs at_ 4, 0) by unfold fetchM; rw [if_neg hbad, if_pos h0])
      obtain ⟨z1, z2, z3⟩ := asked_zero h0
      have h0' : (askedM fs at_ 4 1 != 0) = false := by simp [h0]
      have H3 := Lib.hid (fun i (hi : i < 4) => (z3 i hi).imp fun _ h => h.1)
      obtain ⟨q, hq⟩ : ∃ q, q = numM fs at_ 4 := ⟨_, rfl⟩
      have hql : q < 4294967296 := by rw [hq]; exact numM_lt fs at_ 4
      have HQ := Lib.hid hq
      clear h0 z3 hbad hq
      go_enter Try.func44, Try.ntmps44
      go_wp2_with fail
      refine Calls.mono (rasked2_int w A cap n at_ 4 ps fs hP HN.out.1 HN.out.2.1 HN.out.2.2 _ (by rfl) 1 hat (by decide)) ?_
      rintro e w' ⟨rfl, rfl⟩
      go_wp2_with fail
      refine Calls.mono (rnumber2_int w A cap n at_ 4 ps fs hP HN.out.1 HN.out.2.1 HN.out.2.2 _ (by rfl) z1 (by decide) H3.out) ?_
      rintro e w2 ⟨rfl, hb2⟩
      rw [← HQ.out]
      go_wp2
      go_ret2
      exact ⟨by rw [HF.out, ← HQ.out]; rfl, hb2⟩
    · have HF := Lib.hid (show fetchM fs at_ = (0, askedM fs at_ 4 1) by unfold fetchM; rw [if_neg hbad, if_neg h0])
      have h0' : (askedM fs at_ 4 1 != 0) = true := by simp [h0]
      clear h0 hbad
      go_enter Try.func44, Try.ntmps44
      go_wp2_with fail
      refine Calls.mono (rasked2_int w A cap n at_ 4 ps fs hP HN.out.1 HN.out.2.1 HN.out.2.2 _ (by rfl) 1 hat (by decide)) ?_
      rintro e w' ⟨rfl, rfl⟩
      go_wp2
      go_ret2
      exact ⟨by rw [HF.out]; rfl, Below.refl _ _⟩
end Go.Proofs
