/- asm.Assemble: what is moved as a whole is the same (plain); what a right beginning says. -/
import Derived.Test.YtlhenglopnipaaaGreatDoorAsmPQ
import Derived.BigQuiet
import Derived.RegionTactic
import Derived.Test.YtlhenglopnipaaaGreatDoorBufs
import Derived.OwnWalk
namespace Go.Pat
open Go Go.RowKit Go.Proofs
theorem wrN_c (z : Int) : ((wrN z : Nat) : Int) = z % 18446744073709551616 := by unfold wrN; omega
theorem wrN_eq {a b : Int} (h : a % 18446744073709551616 = b % 18446744073709551616) : wrN a = wrN b := by unfold wrN; rw [h]
/-- an address that is moved. -/
def mv (d v : Nat) : Nat := wrN ((v : Int) + d)
theorem mv_add (d v : Nat) (s : Int) : wrN ((mv d v : Int) + s) = mv d (wrN ((v : Int) + s)) := by
  unfold mv
  apply wrN_eq
  rw [wrN_c, wrN_c]
  omega
theorem layV_moved (d : Nat) (xs : List (It × Int)) (at_ : Nat) (l : List UInt8) : layV xs (mv d at_) l = (layV xs at_ l).map (mv d) := by
  induction xs generalizing at_ with
  | nil => rfl
  | cons x r ih =>
    rw [layV, layV, mv_add, ih]
    cases layV r (wrN ((at_ : Int) + x.2)) l with
    | some v => rfl
    | none =>
      simp only [Option.map_none]
      by_cases h : x.1.k = 1 ∧ l = x.1.s.data.toList
      · rw [if_pos h, if_pos h]; rfl
      · rw [if_neg h, if_neg h]; rfl
/-- labels that are moved. -/
def MovedF (d : Nat) (F G : Names) (P : List UInt8 → Prop) : Prop := ∀ l, P l → ∃ v, F l = some v ∧ G l = some (mv d v)
theorem layM_moved (d : Nat) {text data : List It} {S : List Int} (h : S.length = text.length) (at_ dat : Nat) (F G : Names) :
    MovedF d (layM text data S at_ dat F) (layM text data S (mv d at_) (mv d dat) G) (fun l => isLab text l ∨ isLab data l) := by
  intro l hl
  unfold layM
  simp only [layL_is, layV_moved]
  cases e1 : layV (data.map fun x => (x, leastM x)) dat l with
  | some v => exact ⟨v, rfl, rfl⟩
  | none =>
    cases e2 : layV (text.zip S) at_ l with
    | some v => exact ⟨v, rfl, rfl⟩
    | none =>
      exfalso
      rcases hl with hl | hl
      · have := (lay_zip h at_ l).2 hl
        rw [e2] at this
        cases this
      · have := (lay_map dat l).2 hl
        rw [e1] at this
        cases this
theorem dist_moved {d : Nat} {F G : Names} {P : List UInt8 → Prop} (h : MovedF d F G P) (s : ByteArray) (hs : P s.data.toList) (at_ : Nat) : distM G s (mv d at_) = distM F s at_ := by
  obtain ⟨v, h1, h2⟩ := h _ hs
  unfold distM
  rw [h1, h2]
  simp only [Option.getD_some]
  congr 1
  rw [IntKind.wrap_u64, IntKind.wrap_u64]
  unfold mv
  rw [wrN_c, wrN_c]
  omega
/-- the items that ask for a label have one. -/
def Asks (xs : List It) (P : List UInt8 → Prop) : Prop := ∀ x ∈ xs, (x.k = 4 ∨ x.k = 5 ∨ x.k = 6 ∨ x.k = 7) → P x.s.data.toList
theorem fitsM_any (k size d d2 : Int) (h : ¬ (k = 5 ∨ k = 6 ∨ k = 7)) : fitsM k size d = fitsM k size d2 := by
  have h5 : ¬ k = 5 := fun c => h (.inl c)
  have h6 : ¬ k = 6 := fun c => h (.inr (.inl c))
  have h7 : ¬ k = 7 := fun c => h (.inr (.inr c))
  simp [fitsM, h5, h6, h7]
theorem codeM_any (x : It) (size d d2 : Int) (h : ¬ (x.k = 4 ∨ x.k = 5 ∨ x.k = 6 ∨ x.k = 7)) : codeM x size d = codeM x size d2 := by
  have h4 : ¬ x.k = 4 := fun c => h (.inl c)
  have h5 : ¬ x.k = 5 := fun c => h (.inr (.inl c))
  have h6 : ¬ x.k = 6 := fun c => h (.inr (.inr (.inl c)))
  have h7 : ¬ x.k = 7 := fun c => h (.inr (.inr (.inr c)))
  simp [codeM, h4, h5, h6, h7]
theorem nexts_moved {d : Nat} {F G : Names} {P : List UInt8 → Prop} (h : MovedF d F G P) (xs : List (It × Int)) (hA : ∀ x ∈ xs, (x.1.k = 4 ∨ x.1.k = 5 ∨ x.1.k = 6 ∨ x.1.k = 7) → P x.1.s.data.toList) (at_ : Nat) : nexts G (mv d at_) xs = nexts F at_ xs := by
  induction xs generalizing at_ with
  | nil => rfl
  | cons x r ih =>
    rw [nexts, nexts, mv_add, ih (fun y hy => hA y (List.mem_cons_of_mem _ hy))]
    have e : fitsM x.1.k x.2 (distM G x.1.s (mv d at_)) = fitsM x.1.k x.2 (distM F x.1.s at_) := by
      by_cases hk : x.1.k = 5 ∨ x.1.k = 6 ∨ x.1.k = 7
      · rw [dist_moved h _ (hA x List.mem_cons_self (.inr hk))]
      · exact fitsM_any _ _ _ _ hk
    rw [e]
theorem bytM_moved {d : Nat} {F G : Names} {P : List UInt8 → Prop} (h : MovedF d F G P) (xs : List (It × Int)) (hA : ∀ x ∈ xs, (x.1.k = 4 ∨ x.1.k = 5 ∨ x.1.k = 6 ∨ x.1.k = 7) → P x.1.s.data.toList) (n at_ : Nat) (out : List UInt8) :
    bytM G n (mv d at_) xs out = bytM F n at_ xs out := by
  induction xs generalizing at_ n out with
  | nil => rfl
  | cons x r ih =>
    have e : codeM x.1 x.2 (distM G x.1.s (mv d at_)) = codeM x.1 x.2 (distM F x.1.s at_) := by
      by_cases hk : x.1.k = 4 ∨ x.1.k = 5 ∨ x.1.k = 6 ∨ x.1.k = 7
      · rw [dist_moved h _ (hA x List.mem_cons_self hk)]
      · exact codeM_any _ _ _ _ hk
    rw [bytM, bytM, e, mv_add, ih (fun y hy => hA y (List.mem_cons_of_mem _ hy))]
theorem labsM_moved {d : Nat} {F G : Names} (xs : List It) {P : List UInt8 → Prop} (h : MovedF d F G P) (hP : ∀ x ∈ xs, x.k = 1 → P x.s.data.toList) : labsM G xs = (labsM F xs).map fun y => (y.1, mv d y.2) := by
  induction xs with
  | nil => rfl
  | cons x r ih =>
    rw [labsM, labsM, ih (fun y hy => hP y (List.mem_cons_of_mem _ hy))]
    by_cases hk : x.k = 1
    · obtain ⟨v, h1, h2⟩ := h _ (hP x List.mem_cons_self hk)
      rw [if_pos hk, if_pos hk, h1, h2]
      rfl
    · rw [if_neg hk, if_neg hk]
/-- what a right beginning says. -/
theorem chk1_ok {tl : Nat} {l : List It} {n : Nat} {F F2 : Names} (h : chk1 tl n l F = .inr F2) :
    (∀ i (hi : i < l.length), itemE l[i] (decide (tl ≤ n + i)) = 0) ∧ (∀ m, (F2 m).isSome = true ↔ (F m).isSome = true ∨ isLab l m) := by
  induction l generalizing n F with
  | nil =>
    obtain rfl := Sum.inr.inj h
    exact ⟨fun i hi => absurd hi (by simp), fun m => ⟨.inl, fun c => c.elim id (fun ⟨_, c, _⟩ => by cases c)⟩⟩
  | cons x r ih =>
    rw [chk1] at h
    by_cases h0 : itemE x (decide (tl ≤ n)) = 0
    · rw [if_pos h0] at h
      have key : ∀ F3 : Names, chk1 tl (n + 1) r F3 = .inr F2 → (∀ i (hi : i < (x :: r).length), itemE (x :: r)[i] (decide (tl ≤ n + i)) = 0) ∧ (∀ m, (F2 m).isSome = true ↔ (F3 m).isSome = true ∨ isLab r m) := fun F3 h3 => by
        obtain ⟨g1, g2⟩ := ih h3
        refine ⟨fun i hi => ?_, g2⟩
        cases i with
        | zero => exact h0
        | succ i =>
          have := g1 i (by simpa using hi)
          rw [show n + 1 + i = n + (i + 1) by omega] at this
          exact this
      by_cases hk : x.k = 1
      · rw [if_pos hk] at h
        by_cases hf : (F x.s.data.toList).isSome = true
        · rw [if_pos hf] at h
          cases h
        · rw [if_neg hf] at h
          obtain ⟨g1, g2⟩ := key _ h
          refine ⟨g1, fun m => (g2 m).trans ?_⟩
          unfold Names.upd isLab
          by_cases hm : m = x.s.data.toList
          · simp [hm, hk]
          · simp [hm]
      · rw [if_neg hk] at h
        obtain ⟨g1, g2⟩ := key _ h
        refine ⟨g1, fun m => (g2 m).trans ?_⟩
        unfold isLab
        simp [hk]
    · rw [if_neg h0] at h
      cases h
theorem chk2_none {F : Names} {l : List It} {n : Nat} (h : chk2 F n l = none) : ∀ x ∈ l, x.s.toList ≠ [] → (F x.s.data.toList).isSome = true := by
  induction l generalizing n with
  | nil => intro x hx; cases hx
  | cons y r ih =>
    rw [chk2] at h
    by_cases hy : y.s.toList ≠ [] ∧ (F y.s.data.toList).isSome = false
    · rw [if_pos hy] at h; cases h
    · rw [if_neg hy] at h
      intro x hx hs
      rcases List.mem_cons.1 hx with rfl | hx
      · cases hf : (F x.s.data.toList).isSome with
        | true => rfl
        | false => exact absurd ⟨hs, hf⟩ hy
      · exact ih h x hx hs
end Go.Pat

/- (*program).lay: all labels' addresses. -/
namespace Go.Proofs
open Go Go.RowKit Go.Pat
theorem layL_drop (l : List (It × Int)) (k : Nat) (hk : k < l.length) (a : Nat) (F : Names) : layL (l.drop k) a F = layL (l.drop (k + 1)) (wrN ((a : Int) + l[k].2)) (if l[k].1.k = 1 then F.upd l[k].1.s a else F) := by
  rw [List.drop_eq_getElem_cons hk]; rfl
theorem u64_add (a : Nat) (z : Int) : IntKind.u64.wrap ((a : Int) + IntKind.u64.wrap z) = (wrN ((a : Int) + z) : Int) := by
  rw [wrN_is, IntKind.wrap_u64, IntKind.wrap_u64, IntKind.wrap_u64]; omega
section
variable (B : Nat) (w : World) (p : Nat) (TA : Option Addr) (tc : Nat) (text : List It) (DA : Option Addr) (dc : Nat) (data : List It) (at_ dat mb nm : Nat) (F : Names) (sv : Value) (S : List Int)
def LayTo (e : Ending) (w' : World) : Prop :=
  e = .returned (.tuple #[]) ∧ (∃ nm2, nm2 ≤ nm + (text.length + data.length) ∧ Pm B w' p TA tc text DA dc data at_ dat mb nm2 (layM text data S at_ dat F) sv S) ∧ Below B w w'
set_option maxRecDepth 20000 in
set_option maxHeartbeats 4000000 in
theorem alay_any (hP : Pm B w p TA tc text DA dc data at_ dat mb nm F sv S) (hl : S.length = text.length) (hnm : nm ≤ 100000000000000) (hns : ∀ x ∈ text ++ data, x.s.size ≤ maxLen) (hni : ∀ x ∈ data, -9223372036854775808 ≤ x.n ∧ x.n < 9223372036854775808)
    (hat : at_ < 18446744073709551616) (hdat : dat < 18446744073709551616) : Calls Tryz.prog 60 #[.pointer (some ⟨p, 0, none⟩)] w (LayTo B w p TA tc text DA dc data at_ dat mb nm F sv S) := by
  obtain ⟨SA, sc, rfl, hS⟩ := hP.szs.form
  have c0 : w.cell? ⟨p, 0, none⟩ = some (.slice TA text.length tc) := hP.pr.cell 0
  have c2 : w.cell? ⟨p, 2, none⟩ = some (.int .u64 (at_ : Int)) := hP.pr.cell 2
  have htl := hP.pr.tl
  have hdl := hP.pr.dl
  have HNS := Lib.hid hns
  have HNI := Lib.hid hni
  have hp0 := hP.lt
  clear hns hni
  go_enter Tryz.func60, Tryz.ntmps60
  go_wp2_with fail
  go_loopw [2, 16] (fun q i wr => ∃ (k nm2 a : Nat) (F2 : Names), k ≤ text.length ∧ nm2 ≤ nm + k ∧ i = .int .i64 k ∧ q = .int .u64 (a : Int) ∧ a < 18446744073709551616 ∧ layL ((text.zip S).drop k) a F2 = layL (text.zip S) at_ F ∧ Pm B wr p TA tc text DA dc data at_ dat mb nm2 F2 (.slice SA S.length sc) S ∧ Below B w wr) (fun _ i _ => text.length - (intOf i).toNat)
  case atStart => exact ⟨0, nm, at_, F, Nat.zero_le _, Nat.le_refl _, rfl, rfl, hat, rfl, hP, Below.refl _ _⟩
  case round =>
    obtain ⟨k, nm2, a, F2, hk, hnm2, rfl, rfl, ha, hd, hPr, hB⟩ := hrel
    by_cases hlt : k < text.length
    · have t1 : decide ((k : Int) < (text.length : Int)) = true := decide_eq_true (by omega)
      obtain ⟨b, o, e0, hb, x0, x1, x2, x3, x4, x5, x6⟩ := item_at hPr.tx2 k hlt
      cases e0
      obtain ⟨b2, o2, e1, hb2, y0⟩ := hPr.size_at k (by omega)
      cases e1
      have hz : k < (text.zip S).length := by simp; omega
      have hf := layL_drop (text.zip S) k hz a F2
      rw [hd] at hf
      simp only [List.getElem_zip] at hf
      have hs := HNS.out text[k] (List.mem_append_left _ (List.getElem_mem hlt))
      have hk5 : wr.cell? ⟨p, 5, none⟩ = some (.slice (some ⟨b2, o2, none⟩) S.length sc) := hPr.pr.cell 5
      have hk4 : wr.cell? ⟨p, 4, none⟩ = some (.map (some mb)) := hPr.pr.cell 4
      have hp := hPr.lt
      have hkl : (k : Int) < (S.length : Int) := by omega
      have hkl2 : k < S.length := by omega
      have hku : (k : Int) < (text.length : Int) := by omega
      by_cases hk1 : (text[k]).k = 1
      · rw [if_pos hk1] at hf
        rw [hk1] at x0
        clear hk1
        generalize text[k].s = v1 at *
        generalize text[k].op = v2 at *
        generalize text[k].rd = v3 at *
        generalize text[k].a = v4 at *
        generalize text[k].b = v5 at *
        generalize text[k].n = v6 at *
        have hput := ((hPr.map.below (form1 wr (.cells #[.int .i64 1, .string v1, .int .i64 v2, .int .i64 v3, .int .i64 v4, .int .i64 v5, .int .i64 v6] 28))).keep (w' := (wr.alloc (.cells #[.int .i64 1, .string v1, .int .i64 v2, .int .i64 v3, .int .i64 v4, .int .i64 v5, .int .i64 v6] 28)).drew) rfl).put (by unfold maxLen; omega) v1 hs a ha
        obtain ⟨pw, hpe, hpw⟩ := hput
        have hpm := ((hPr.keep ((form1 wr (.cells #[.int .i64 1, .string v1, .int .i64 v2, .int .i64 v3, .int .i64 v4, .int .i64 v5, .int .i64 v6] 28)).drew)).put hpw.1 hpw.2)
        have hp5 : pw.cell? ⟨p, 5, none⟩ = some (.slice (some ⟨b2, o2, none⟩) S.length sc) := hpm.1.pr.cell 5
        have hp6 : pw.cell? ⟨b2, o2 + k, none⟩ = some (.int .i64 S[k]) := by
          obtain ⟨b', o', e, _, h⟩ := hpm.1.size_at k hkl2
          cases e
          exact h
        have HB := Lib.hid (hB.trans ((hPr.le_alloc _).drew.trans hpm.2))
        have HM := Lib.hid hpm.1
        have HF := Lib.hid hf.symm
        have HU := Lib.hid (u64_add a S[k])
        have HL := Lib.hid (wrN_lt ((a : Int) + S[k]))
        generalize S[k] = sz at *
        clear hpm hpw hPr hf hd hs y0 hk5
        go_wp2_with fail
        go_region
        go_wp2_with fail
        go_roundw
        case rel => exact ⟨k + 1, nm2 + 1, _, _, by omega, by omega, by go_num, congrArg (Value.int .u64) HU.out, HL.out, HF.out, HM.out, HB.out⟩
        case measure => simp [intOf]; omega
      · rw [if_neg hk1] at hf
        have tk : ((text[k]).k == 1) = false := by simpa using hk1
        clear hk1
        generalize text[k].k = v0 at *
        generalize text[k].s = v1 at *
        generalize text[k].op = v2 at *
        generalize text[k].rd = v3 at *
        generalize text[k].a = v4 at *
        generalize text[k].b = v5 at *
        generalize text[k].n = v6 at *
        have HB := Lib.hid (hB.trans (hPr.le_alloc (.cells #[.int .i64 v0, .string v1, .int .i64 v2, .int .i64 v3, .int .i64 v4, .int .i64 v5, .int .i64 v6] 28)))
        have HM := Lib.hid (hPr.keep (form1 wr (.cells #[.int .i64 v0, .string v1, .int .i64 v2, .int .i64 v3, .int .i64 v4, .int .i64 v5, .int .i64 v6] 28)))
        have HF := Lib.hid hf.symm
        have HU := Lib.hid (u64_add a S[k])
        have HL := Lib.hid (wrN_lt ((a : Int) + S[k]))
        generalize S[k] = sz at *
        clear hPr hf hd hs
        go_wp2_with fail
        go_roundw
        case rel => exact ⟨k + 1, nm2, _, _, by omega, by omega, by go_num, congrArg (Value.int .u64) HU.out, HL.out, HF.out, HM.out, HB.out⟩
        case measure => simp [intOf]; omega
    · have t1 : decide ((k : Int) < (text.length : Int)) = false := decide_eq_false (by omega)
      obtain rfl : k = text.length := by omega
      rw [show (text.zip S).drop text.length = [] from List.drop_of_length_le (by simp; omega)] at hd
      have HD := Lib.hid (show F2 = layL (text.zip S) at_ F from hd)
      have d3 : wr.cell? ⟨p, 3, none⟩ = some (.int .u64 (dat : Int)) := hPr.pr.cell 3
      have d1 : wr.cell? ⟨p, 1, none⟩ = some (.slice DA data.length dc) := hPr.pr.cell 1
      have hp := hPr.lt
      have HP2 := Lib.hid hPr
      have hB0 := hB
      clear hd hPr hP hS
      go_wp2_with fail
      go_loopw [2, 51] (fun q i wr => ∃ (k nm3 a : Nat) (F3 : Names), k ≤ data.length ∧ nm3 ≤ nm + text.length + k ∧ i = .int .i64 k ∧ q = .int .u64 (a : Int) ∧ a < 18446744073709551616 ∧ layL ((data.map fun x => (x, leastM x)).drop k) a F3 = layM text data S at_ dat F ∧ Pm B wr p TA tc text DA dc data at_ dat mb nm3 F3 (.slice SA S.length sc) S ∧ Below B w wr) (fun _ i _ => data.length - (intOf i).toNat)
      case atStart => exact ⟨0, nm2, dat, F2, Nat.zero_le _, hnm2, rfl, rfl, hdat, by rw [HD.out]; rfl, HP2.out, hB0⟩
      case round =>
        obtain ⟨k, nm3, a, F3, hk, hnm3, rfl, rfl, ha, hd, hPr, hB⟩ := hrel
        by_cases hlt : k < data.length
        · have t1 : decide ((k : Int) < (data.length : Int)) = true := decide_eq_true (by omega)
          obtain ⟨b, o, e0, hb, x0, x1, x2, x3, x4, x5, x6⟩ := item_at hPr.pr.dt k hlt
          cases e0
          have hz : k < (data.map fun x => (x, leastM x)).length := by simp; omega
          have hf := layL_drop (data.map fun x => (x, leastM x)) k hz a F3
          rw [hd] at hf
          simp only [List.getElem_map] at hf
          have hs := HNS.out data[k] (List.mem_append_right _ (List.getElem_mem hlt))
          have HA := Lib.hid (fun W hW => aleast_any data[k] (HNI.out data[k] (List.getElem_mem hlt)) W hW)
          have hk4 : wr.cell? ⟨p, 4, none⟩ = some (.map (some mb)) := hPr.pr.cell 4
          have hp := hPr.lt
          have hku : (k : Int) < (data.length : Int) := by omega
          have HU := Lib.hid (u64_add a (leastM data[k]))
          have HL := Lib.hid (wrN_lt ((a : Int) + leastM data[k]))
          generalize leastM data[k] = sz at *
          have hcs : (data[k]).cs = #[.int .i64 (data[k]).k, .string (data[k]).s, .int .i64 (data[k]).op, .int .i64 (data[k]).rd, .int .i64 (data[k]).a, .int .i64 (data[k]).b, .int .i64 (data[k]).n] := rfl
          rw [hcs] at HA
          clear hcs
          by_cases hk1 : (data[k]).k = 1
          · rw [if_pos hk1] at hf
            rw [hk1] at x0 HA
            clear hk1
            generalize data[k].s = v1 at *
            generalize data[k].op = v2 at *
            generalize data[k].rd = v3 at *
            generalize data[k].a = v4 at *
            generalize data[k].b = v5 at *
            generalize data[k].n = v6 at *
            have hput := ((hPr.map.below (form1 wr (.cells #[.int .i64 1, .string v1, .int .i64 v2, .int .i64 v3, .int .i64 v4, .int .i64 v5, .int .i64 v6] 28))).keep (w' := (wr.alloc (.cells #[.int .i64 1, .string v1, .int .i64 v2, .int .i64 v3, .int .i64 v4, .int .i64 v5, .int .i64 v6] 28)).drew) rfl).put (by unfold maxLen; omega) v1 hs a ha
            obtain ⟨pw, hpe, hpw⟩ := hput
            have hpm := ((hPr.keep ((form1 wr (.cells #[.int .i64 1, .string v1, .int .i64 v2, .int .i64 v3, .int .i64 v4, .int .i64 v5, .int .i64 v6] 28)).drew)).put hpw.1 hpw.2)
            have hbl : pw.heap[wr.heap.size]? = some (.cells #[.int .i64 1, .string v1, .int .i64 v2, .int .i64 v3, .int .i64 v4, .int .i64 v5, .int .i64 v6] 28 (0, 0)) :=
              (hpw.2.block wr.heap.size (by show _ < (wr.alloc _).heap.size; rw [World.size_alloc]; omega) (fun e => by have := hPr.map.lt; have := Option.some.inj e; omega)).trans (heap_alloc_new wr _)
            have g0 := (obj_cell hbl 0).trans rfl
            have g1 := (obj_cell hbl 1).trans rfl
            have g2 := (obj_cell hbl 2).trans rfl
            have g3 := (obj_cell hbl 3).trans rfl
            have g4 := (obj_cell hbl 4).trans rfl
            have g5 := (obj_cell hbl 5).trans rfl
            have g6 := (obj_cell hbl 6).trans rfl
            have HB := Lib.hid (hB.trans ((hPr.le_alloc _).drew.trans hpm.2))
            have HM := Lib.hid hpm.1
            have HF := Lib.hid hf.symm
            have HT := Lib.hid hpm.1.tz
            clear hpm hpw hPr hf hd hs hbl
            go_wp2_with fail
            go_region
            go_wp2_with (go_at_call 59; (with_reducible refine (HA.out _ HT.out).mono ?_); rintro e w3 ⟨rfl, hB3⟩)
            go_roundw
            case rel => exact ⟨k + 1, nm3 + 1, _, _, by omega, by omega, by go_num, congrArg (Value.int .u64) HU.out, HL.out, HF.out, HM.out.keep hB3, HB.out.trans (hB3.mono HM.out.le)⟩
            case measure => simp [intOf]; omega
          · rw [if_neg hk1] at hf
            have tk : ((data[k]).k == 1) = false := by simpa using hk1
            clear hk1
            generalize data[k].k = v0 at *
            generalize data[k].s = v1 at *
            generalize data[k].op = v2 at *
            generalize data[k].rd = v3 at *
            generalize data[k].a = v4 at *
            generalize data[k].b = v5 at *
            generalize data[k].n = v6 at *
            have HB := Lib.hid (hB.trans (hPr.le_alloc (.cells #[.int .i64 v0, .string v1, .int .i64 v2, .int .i64 v3, .int .i64 v4, .int .i64 v5, .int .i64 v6] 28)))
            have HM := Lib.hid (hPr.keep (form1 wr (.cells #[.int .i64 v0, .string v1, .int .i64 v2, .int .i64 v3, .int .i64 v4, .int .i64 v5, .int .i64 v6] 28)))
            have HF := Lib.hid hf.symm
            clear hPr hf hd hs
            go_wp2_with (go_at_call 59; (with_reducible refine (HA.out _ HM.out.tz).mono ?_); rintro e w3 ⟨rfl, hB3⟩)
            go_roundw
            case rel => exact ⟨k + 1, nm3, _, _, by omega, by omega, by go_num, congrArg (Value.int .u64) HU.out, HL.out, HF.out, HM.out.keep hB3, HB.out.trans (hB3.mono HM.out.le)⟩
            case measure => simp [intOf]; omega
        · have t1 : decide ((k : Int) < (data.length : Int)) = false := decide_eq_false (by omega)
          obtain rfl : k = data.length := by omega
          rw [show (data.map fun x => (x, leastM x)).drop data.length = [] from List.drop_of_length_le (by simp)] at hd
          have HD2 := Lib.hid (show F3 = layM text data S at_ dat F from hd)
          have HP3 := Lib.hid hPr
          clear hd hPr
          go_wp2_with fail
          go_end0
          exact ⟨rfl, ⟨nm3, by omega, by rw [← HD2.out]; exact HP3.out⟩, hB⟩
end
end Go.Proofs

/- For (*program).relax: sizes that are written, longer items. -/
namespace Go.Pat
open Go Go.RowKit Go.Proofs
theorem zcells_set (l : List Int) (i : Nat) (c : Int) : zcells (l.set i c) = (zcells l).set i (.int .i64 c) := by simp [zcells, List.map_set]
theorem nexts_drop (F : Names) (l : List (It × Int)) (k : Nat) (hk : k < l.length) (a : Nat) :
    nexts F a (l.drop k) = (if fitsM l[k].1.k l[k].2 (distM F l[k].1.s a) then l[k].2 else l[k].2 + 4) :: nexts F (wrN ((a : Int) + l[k].2)) (l.drop (k + 1)) := by
  rw [List.drop_eq_getElem_cons hk]; rfl
theorem room_nexts (F : Names) (xs : List It) (S : List Int) (a : Nat) (h : S.length = xs.length) : roomL (xs.zip (nexts F a (xs.zip S))) ≤ roomL (xs.zip S) ∧ (nexts F a (xs.zip S) ≠ S → roomL (xs.zip (nexts F a (xs.zip S))) + 1 ≤ roomL (xs.zip S)) := by
  induction xs generalizing S a with
  | nil =>
    cases S with
    | nil => exact ⟨Nat.le_refl _, fun c => absurd rfl c⟩
    | cons s r => cases h
  | cons x xs ih =>
    cases S with
    | nil => cases h
    | cons s r =>
      obtain ⟨h1, h2⟩ := ih r (wrN ((a : Int) + s)) (by simpa using h)
      simp only [List.zip_cons_cons, nexts, roomL]
      cases hf : fitsM x.k s (distM F x.s a) with
      | true =>
        simp only [if_true]
        refine ⟨by omega, fun c => ?_⟩
        have : nexts F (wrN ((a : Int) + s)) (xs.zip r) ≠ r := fun e => c (by rw [e])
        have := h2 this
        omega
      | false =>
        obtain ⟨_, hr⟩ := room_step _ _ _ hf
        simp only [Bool.false_eq_true, if_false]
        exact ⟨by omega, fun _ => by omega⟩
theorem get_mid (pre S : List Int) (k : Nat) (h : pre.length = k) (hk : k < S.length) : (pre ++ S.drop k)[k]? = some S[k] := by
  rw [List.getElem?_append_right (by omega), List.getElem?_drop, show k + (k - pre.length) = k by omega, List.getElem?_eq_getElem hk]
theorem set_mid (pre S : List Int) (k : Nat) (h : pre.length = k) (hk : k < S.length) (v : Int) : (pre ++ S.drop k).set k v = (pre ++ [v]) ++ S.drop (k + 1) := by
  subst h
  rw [List.drop_eq_getElem_cons hk, List.set_append_right _ _ (Nat.le_refl _), Nat.sub_self, List.set_cons_zero, List.append_assoc, List.singleton_append]
theorem mid_ne (pre S : List Int) (k : Nat) (h : pre.length = k) (hk : k < S.length) (v : Int) (hv : v ≠ S[k]) : (pre ++ [v]) ++ S.drop (k + 1) ≠ S := by
  intro e
  have h1 : ((pre ++ [v]) ++ S.drop (k + 1))[k]? = some v := by
    subst h
    rw [List.append_assoc, List.getElem?_append_right (Nat.le_refl _), Nat.sub_self]
    rfl
  rw [e, List.getElem?_eq_getElem hk] at h1
  exact hv (Option.some.inj h1).symm
/-- sizes by rounds. -/
def roundsM (text data : List It) (at_ dat : Nat) (F0 : Names) : Nat → List Int
  | 0 => text.map leastM
  | k + 1 => nextM text data at_ dat F0 (roundsM text data at_ dat F0 k)
theorem roundsM_length (text data : List It) (at_ dat : Nat) (F0 : Names) (k : Nat) : (roundsM text data at_ dat F0 k).length = text.length := by
  induction k with
  | zero => simp [roundsM]
  | succ k ih => exact nextM_length _ _ _ _ _ _ ih
/-- the sizes with which all reach. -/
def Final (text data : List It) (at_ dat : Nat) (F0 : Names) (S : List Int) : Prop := (∃ j, S = roundsM text data at_ dat F0 j) ∧ nextM text data at_ dat F0 S = S
theorem rounds_stay {text data : List It} {at_ dat : Nat} {F0 : Names} {j : Nat} (h : nextM text data at_ dat F0 (roundsM text data at_ dat F0 j) = roundsM text data at_ dat F0 j) (i : Nat) : roundsM text data at_ dat F0 (j + i) = roundsM text data at_ dat F0 j := by
  induction i with
  | zero => rfl
  | succ i ih => rw [← Nat.add_assoc, roundsM, ih, h]
theorem Final.one {text data : List It} {at_ dat : Nat} {F0 : Names} {S S2 : List Int} (h : Final text data at_ dat F0 S) (h2 : Final text data at_ dat F0 S2) : S = S2 := by
  obtain ⟨⟨j, rfl⟩, hj⟩ := h
  obtain ⟨⟨i, rfl⟩, hi⟩ := h2
  rcases Nat.le_total j i with hle | hle
  · obtain ⟨d, rfl⟩ := Nat.le.dest hle
    exact (rounds_stay hj d).symm
  · obtain ⟨d, rfl⟩ := Nat.le.dest hle
    exact rounds_stay hi d
end Go.Pat
namespace Go.Proofs
open Go Go.RowKit Go.Pat
theorem step_appZ {ops : Array Oper} {o : Oper} {a : Act} {w : World} {K : Act → World → Prop} {Q : Exit → Act → World → Prop} {E : Prop} (hgd : o.guard = none) (s x : Operand)
    (ho : o.op = .call { callee := .builtin .append, args := #[s, x], argTypes := #[43, 43] }) (base : Nat) (v : Value) (l : List Int) (hs : a.eval s = v) (hown : OwnZ w base v l)
    (B : Nat) (A : Option Addr) (n c : Nat) (m : List Int) (hx : a.eval x = .slice A n c) (hn : m.length = n) (hr : Cs B w A (zcells m)) (hlen : l.length + n ≤ 1000000000) (hbase : base ≤ w.heap.size)
    (h : ∀ v' w', OwnZ w' base v' (l ++ m) → (∀ W, Below base W w → Below base W w') → (∀ g, g < w.heap.size → v.ownBlock ≠ some g → w'.heap[g]? = w.heap[g]?) → w.heap.size ≤ w'.heap.size → K (a.put o.dst v') w') :
    if Region.wanted o (yielded ops a.tmps) = true then Oper.wp Tryz.prog o a w K Q else E := by
  refine step_app hgd s x 43 ho Tryz_elInts base v l.length (zcells l) hs hown B A n c (zcells m) hx (by rw [zcells_length, hn, Nat.mul_one]) hr (zcells_one m) (by simp only [maxLen]; omega) (by omega) hbase ?_
  intro v' w' h1 hg hnil hat
  refine h v' w' ?_ (fun W hW => own_below hown hW hg hbase) (fun g hg1 hg2 => hg.block g hg1 (fun e => hg2 e.symm)) hg.size
  unfold OwnZ
  rw [List.length_append, hn, zcells_append]
  exact h1
theorem OwnZ.set1 {w : World} {base g n cap : Nat} {l : List Int} (h : OwnZ w base (.slice (some ⟨g, 0, none⟩) n cap) l) (hn : l.length = n) (i : Nat) (c : Int) :
    OwnZ (w.setCell ⟨g, i, none⟩ (.int .i64 c)) base (.slice (some ⟨g, 0, none⟩) n cap) (l.set i c) := by
  subst hn
  unfold OwnZ at h ⊢
  have := (h.stored i (.int .i64 c)).1
  rw [← zcells_set] at this
  rw [List.length_set]
  exact this
theorem OwnZ.own {w : World} {base : Nat} {v : Value} {l : List Int} (h : OwnZ w base v l) (hl : 0 < l.length) : ∃ g cap, v = .slice (some ⟨g, 0, none⟩) l.length cap ∧ base ≤ g ∧ (∃ cur, w.heap[g]? = some (.cells cur 3 (0, 0))) := by
  rcases h.2 with ⟨_, h0⟩ | ⟨g, cap, cur, rfl, hg, hh, _⟩
  · omega
  · exact ⟨g, cap, rfl, hg, cur, hh⟩
theorem OwnZ.one {w : World} {b1 b2 : Nat} {v : Value} {l m : List Int} (h : OwnZ w b1 v l) (h2 : OwnZ w b2 v m) : l = m := by
  obtain ⟨A, c, rfl, hc⟩ := h.form
  obtain ⟨A2, c2, e, hc2⟩ := h2.form
  simp only [Value.slice.injEq] at e
  obtain ⟨rfl, hlen, rfl⟩ := e
  refine List.ext_getElem hlen fun i hi hj => ?_
  obtain ⟨b, o, rfl, _, h3⟩ := hc i (by rw [zcells_length]; exact hi)
  obtain ⟨b', o', e, _, h4⟩ := hc2 i (by rw [zcells_length]; exact hj)
  cases e
  rw [h3] at h4
  simpa [zcells] using h4
section
variable {B : Nat} {w w' : World} {p : Nat} {TA : Option Addr} {tc : Nat} {text : List It} {DA : Option Addr} {dc : Nat} {data : List It} {at_ dat mb nm : Nat} {F : Names} {sv : Value} {S : List Int}
/-- a program's parts where sizes are written behind the old ones. -/
theorem Pm.rest {w2 : World} {v2 : Value} {S2 : List Int} (h : Pm B w p TA tc text DA dc data at_ dat mb nm F sv S) (hB : Below B w w2) (hk : ∀ g, g < w.heap.size → sv.ownBlock ≠ some g → w2.heap[g]? = w.heap[g]?) (ho : OwnZ w2 B v2 S2) :
    Pm B (w2.setCell ⟨p, 5, none⟩ v2) p TA tc text DA dc data at_ dat mb nm F v2 S2 ∧ Below B w (w2.setCell ⟨p, 5, none⟩ v2) := by
  have hp := h.lt
  have hs2 := hB.size
  have hpk : w2.heap[p]? = w.heap[p]? := hk p hp fun e => by
    obtain ⟨_, cur, hc⟩ := owns_block h.szs e
    rw [h.pr.str] at hc
    cases hc
  have hstr := hpk.trans h.pr.str
  obtain ⟨es, c, hmb⟩ := h.map.block
  have hmk : w2.heap[mb]? = w.heap[mb]? := hk mb h.map.lt fun e => by
    obtain ⟨_, cur, hc⟩ := owns_block h.szs e
    rw [hmb] at hc
    cases hc
  have hpm : mb ≠ p := by
    rintro rfl
    rw [h.pr.str] at hmb
    cases hmb
  have hB2 : Below B w (w2.setCell ⟨p, 5, none⟩ v2) := hB.setCell h.hp _
  have hsz : (w2.setCell ⟨p, 5, none⟩ v2).heap.size = w2.heap.size := by simp [World.setCell]
  have htx := h.tx.below hB2
  have hdt := h.dt.below hB2
  have hle := h.le
  refine ⟨⟨⟨?_, htx.more (by omega), hdt.more (by omega), h.pr.tl, h.pr.dl⟩, htx, hdt, h.hp, h.hm, h.map.keep ((Below.heap_setCell _ _ _ _ hpm).trans hmk), owns_keep ho fun g hg => ?_, h.tz.belowB h.tb hB2, h.tb, h.rv.belowB h.rb hB2, h.rb⟩, hB2⟩
  · exact obj_set hstr 5 v2
  · obtain ⟨_, cur, hc⟩ := owns_block ho hg
    refine Below.heap_setCell _ _ _ _ fun e => ?_
    have e2 : g = p := e
    subst e2
    rw [hstr] at hc
    cases hc
/-- a store into another slice of numbers. -/
theorem Pm.put2 {g i : Nat} {v : Value} (h : Pm B w p TA tc text DA dc data at_ dat mb nm F sv S) (hg : B ≤ g) (hc : ∃ cur, w.heap[g]? = some (.cells cur 3 (0, 0))) (hne : sv.ownBlock ≠ some g) :
    Pm B (w.setCell ⟨g, i, none⟩ v) p TA tc text DA dc data at_ dat mb nm F sv S ∧ Below B w (w.setCell ⟨g, i, none⟩ v) := by
  obtain ⟨cur, hc⟩ := hc
  have hpg : p ≠ g := by
    rintro rfl
    rw [h.pr.str] at hc
    cases hc
  obtain ⟨es, c, hmb⟩ := h.map.block
  have hmg : mb ≠ g := by
    rintro rfl
    rw [hmb] at hc
    cases hc
  have hB2 : Below B w (w.setCell ⟨g, i, none⟩ v) := (Below.refl _ _).setCell hg _
  have hsz : (w.setCell ⟨g, i, none⟩ v).heap.size = w.heap.size := by simp [World.setCell]
  have htx := h.tx.below hB2
  have hdt := h.dt.below hB2
  have hle := h.le
  exact ⟨⟨⟨(Below.heap_setCell _ _ _ _ hpg).trans h.pr.str, htx.more (by omega), hdt.more (by omega), h.pr.tl, h.pr.dl⟩, htx, hdt, h.hp, h.hm, h.map.keep (Below.heap_setCell _ _ _ _ hmg), owns_keep h.szs fun g2 hg2 => Below.heap_setCell _ _ _ _ (fun e => hne (by rw [hg2, e])), h.tz.belowB h.tb hB2, h.tb, h.rv.belowB h.rb hB2, h.rb⟩, hB2⟩
end
end Go.Proofs

/- patina/asm.begin: a program whose items are right, or what is wrong first. -/
namespace Go.Pat
open Go Go.RowKit Go.Proofs
theorem chk1_drop (tl : Nat) (l : List It) (k : Nat) (hk : k < l.length) (F : Names) :
    chk1 tl k (l.drop k) F = if itemE l[k] (decide (tl ≤ k)) = 0 then (if l[k].k = 1 then (if (F l[k].s.data.toList).isSome then .inl (51, k) else chk1 tl (k + 1) (l.drop (k + 1)) (F.upd l[k].s 0)) else chk1 tl (k + 1) (l.drop (k + 1)) F) else .inl (itemE l[k] (decide (tl ≤ k)), k) := by
  rw [List.drop_eq_getElem_cons hk]; rfl
theorem chk2_drop (F : Names) (l : List It) (k : Nat) (hk : k < l.length) :
    chk2 F k (l.drop k) = if l[k].s.toList ≠ [] ∧ (F l[k].s.data.toList).isSome = false then some k else chk2 F (k + 1) (l.drop (k + 1)) := by
  rw [List.drop_eq_getElem_cons hk]; rfl
def begR (text : List It) (C : (Int × Nat) ⊕ Names) : (Int × Nat) ⊕ Names :=
  match C with
  | .inl e => .inl e
  | .inr F => match chk2 F 0 text with
    | some n => .inl (50, n)
    | none => .inr F
theorem begM_is (text data : List It) (at_ dat : Nat) (h : ¬ (at_ % 4 ≠ 0 ∨ dat % 8 ≠ 0 ∨ 1099511627776 < at_ ∨ 1099511627776 < dat)) (h2 : ¬ (1048576 < text.length ∨ 1048576 - text.length < data.length)) :
    begM text data at_ dat = begR text (chk1 text.length 0 (text ++ data) (fun _ => none)) := by
  unfold begM begR
  rw [if_neg h, if_neg h2]
  rfl
theorem begR_l (text : List It) (e : Int × Nat) : begR text (.inl e) = .inl e := rfl
theorem begR_s (text : List It) (F : Names) (n : Nat) (h : chk2 F 0 text = some n) : begR text (.inr F) = .inl (50, n) := by simp only [begR, h]
theorem begR_n (text : List It) (F : Names) (h : chk2 F 0 text = none) : begR text (.inr F) = .inr F := by simp only [begR, h]
end Go.Pat
namespace Go.Proofs
open Go Go.RowKit Go.Pat
theorem form1a {w w2 : World} (h : Below w.heap.size w w2) (o : Obj) : Below w.heap.size w2 (w2.alloc o) := (Below.refl _ _).alloc h.size o
section
variable (w : World) (TA : Option Addr) (tc : Nat) (text : List It) (DA : Option Addr) (dc : Nat) (data : List It) (at_ dat : Nat)
def BegTo (e : Ending) (w' : World) : Prop :=
  Below w.heap.size w w' ∧ match begM text data at_ dat with
  | .inl x => e = .returned (.tuple #[.pointer none, .int .i64 x.1, .int .i64 (x.2 : Int)])
  | .inr F => ∃ p mb nm, nm ≤ text.length + data.length ∧ e = .returned (.tuple #[.pointer (some ⟨p, 0, none⟩), .int .i64 0, .int .i64 0]) ∧ Pm w.heap.size w' p TA tc text DA dc data at_ dat mb nm F (.slice none 0 0) []
theorem beg_bad (h : at_ % 4 ≠ 0 ∨ dat % 8 ≠ 0 ∨ 1099511627776 < at_ ∨ 1099511627776 < dat) (W : World) (hB : Below w.heap.size w W) : BegTo w TA tc text DA dc data at_ dat (.returned (.tuple #[.pointer none, .int .i64 1, .int .i64 0])) W := by
  refine ⟨hB, ?_⟩
  simp only [show begM text data at_ dat = .inl (1, 0) from if_pos h]
  rfl
set_option maxRecDepth 20000 in
theorem abegin_bad (h : at_ % 4 ≠ 0 ∨ dat % 8 ≠ 0 ∨ 1099511627776 < at_ ∨ 1099511627776 < dat) :
    Calls Tryz.prog 28 #[.slice TA text.length tc, .slice DA data.length dc, .int .u64 (at_ : Int), .int .u64 (dat : Int)] w (BegTo w TA tc text DA dc data at_ dat) := by
  have HP := Lib.hid (beg_bad w TA tc text DA dc data at_ dat h)
  generalize BegTo w TA tc text DA dc data at_ dat = PP at *
  by_cases h1 : at_ % 4 = 0
  · have t1 : ((at_ : Int) % 4 != 0) = false := by simp; omega
    by_cases h2 : dat % 8 = 0
    · have t2 : ((dat : Int) % 8 != 0) = false := by simp; omega
      by_cases h3 : 1099511627776 < at_
      · have t3 : decide ((1099511627776 : Int) < (at_ : Int)) = true := by simp; omega
        go_enter Tryz.func28, Tryz.ntmps28
        go_wp2_with fail
        go_ret3
        exact HP.out _ (Below.refl _ _)
      · have t3 : decide ((1099511627776 : Int) < (at_ : Int)) = false := by simp; omega
        have t4 : decide ((1099511627776 : Int) < (dat : Int)) = true := by simp; omega
        go_enter Tryz.func28, Tryz.ntmps28
        go_wp2_with fail
        go_ret3
        exact HP.out _ (Below.refl _ _)
    · have t2 : ((dat : Int) % 8 != 0) = true := by simp; omega
      go_enter Tryz.func28, Tryz.ntmps28
      go_wp2_with fail
      go_ret3
      exact HP.out _ (Below.refl _ _)
  · have t1 : ((at_ : Int) % 4 != 0) = true := by simp; omega
    go_enter Tryz.func28, Tryz.ntmps28
    go_wp2_with fail
    go_ret3
    exact HP.out _ (Below.refl _ _)
theorem beg_long (h : ¬ (at_ % 4 ≠ 0 ∨ dat % 8 ≠ 0 ∨ 1099511627776 < at_ ∨ 1099511627776 < dat)) (h2 : 1048576 < text.length ∨ 1048576 - text.length < data.length) (W : World) (hB : Below w.heap.size w W) :
    BegTo w TA tc text DA dc data at_ dat (.returned (.tuple #[.pointer none, .int .i64 2, .int .i64 0])) W := by
  refine ⟨hB, ?_⟩
  simp only [show begM text data at_ dat = .inl (2, 0) by unfold begM; rw [if_neg h, if_pos h2]]
  rfl
set_option maxRecDepth 20000 in
theorem abegin_long (h : ¬ (at_ % 4 ≠ 0 ∨ dat % 8 ≠ 0 ∨ 1099511627776 < at_ ∨ 1099511627776 < dat)) (h2 : 1048576 < text.length ∨ 1048576 - text.length < data.length) (ht : text.length ≤ maxLen) (_hd : data.length ≤ maxLen) :
    Calls Tryz.prog 28 #[.slice TA text.length tc, .slice DA data.length dc, .int .u64 (at_ : Int), .int .u64 (dat : Int)] w (BegTo w TA tc text DA dc data at_ dat) := by
  have HP := Lib.hid (beg_long w TA tc text DA dc data at_ dat h h2)
  generalize BegTo w TA tc text DA dc data at_ dat = PP at *
  unfold maxLen at ht
  have t1 : ((at_ : Int) % 4 != 0) = false := by simp; omega
  have t2 : ((dat : Int) % 8 != 0) = false := by simp; omega
  have t3 : decide ((1099511627776 : Int) < (at_ : Int)) = false := by simp; omega
  have t4 : decide ((1099511627776 : Int) < (dat : Int)) = false := by simp; omega
  clear h
  by_cases h3 : 1048576 < text.length
  · have t5 : decide ((1048576 : Int) < (text.length : Int)) = true := by simp; omega
    go_enter Tryz.func28, Tryz.ntmps28
    go_wp2_with fail
    go_ret3
    exact HP.out _ (Below.refl _ _)
  · have t5 : decide ((1048576 : Int) < (text.length : Int)) = false := by simp; omega
    have t6 : decide ((1048576 : Int) - (text.length : Int) < (data.length : Int)) = true := by simp; omega
    go_enter Tryz.func28, Tryz.ntmps28
    go_wp2_with fail
    go_ret3
    exact HP.out _ (Below.refl _ _)
set_option maxRecDepth 20000 in
set_option maxHeartbeats 8000000 in
theorem abegin_main (h : ¬ (at_ % 4 ≠ 0 ∨ dat % 8 ≠ 0 ∨ 1099511627776 < at_ ∨ 1099511627776 < dat)) (h2 : ¬ (1048576 < text.length ∨ 1048576 - text.length < data.length))
    (hT : Cs w.heap.size w TA (tcells text)) (hD : Cs w.heap.size w DA (tcells data)) (hns : ∀ x ∈ text ++ data, x.s.size ≤ maxLen) (htz : TzTab w) (hrv : RvRows w) :
    Calls Tryz.prog 28 #[.slice TA text.length tc, .slice DA data.length dc, .int .u64 (at_ : Int), .int .u64 (dat : Int)] w (BegTo w TA tc text DA dc data at_ dat) := by
  obtain ⟨C, hC⟩ : ∃ C, chk1 text.length 0 (text ++ data) (fun _ => none) = C := ⟨_, rfl⟩
  have hM : begM text data at_ dat = begR text C := by rw [begM_is text data at_ dat h h2, hC]
  have HP1 := Lib.hid (show ∀ (e : Int) (n : Nat) W, C = .inl (e, n) → Below w.heap.size w W → BegTo w TA tc text DA dc data at_ dat (.returned (.tuple #[.pointer none, .int .i64 e, .int .i64 (n : Int)])) W from fun e n W hc hB => ⟨hB, by simp only [hM, hc, begR_l]⟩)
  have HP2x := Lib.hid (show ∀ (F : Names) (n : Nat) W, C = .inr F → chk2 F 0 text = some n → Below w.heap.size w W → BegTo w TA tc text DA dc data at_ dat (.returned (.tuple #[.pointer none, .int .i64 50, .int .i64 (n : Int)])) W from fun F n W hc h3 hB => ⟨hB, by simp only [hM, hc, begR_s text F n h3]⟩)
  have HP3 := Lib.hid (show ∀ (F : Names) (nm : Nat) W, C = .inr F → chk2 F 0 text = none → nm ≤ text.length + data.length → Below w.heap.size w W → Pm w.heap.size W (w.heap.size + 1) TA tc text DA dc data at_ dat w.heap.size nm F (.slice none 0 0) [] → BegTo w TA tc text DA dc data at_ dat (.returned (.tuple #[.pointer (some ⟨w.heap.size + 1, 0, none⟩), .int .i64 0, .int .i64 0])) W from
    fun F nm W hc h3 hn hB hP => ⟨hB, by simp only [hM, hc, begR_n text F h3]; exact ⟨_, _, nm, hn, rfl, hP⟩⟩)
  generalize BegTo w TA tc text DA dc data at_ dat = PP at *
  have t1 : ((at_ : Int) % 4 != 0) = false := by simp; omega
  have t2 : ((dat : Int) % 8 != 0) = false := by simp; omega
  have t3 : decide ((1099511627776 : Int) < (at_ : Int)) = false := by simp; omega
  have t4 : decide ((1099511627776 : Int) < (dat : Int)) = false := by simp; omega
  have t5 : decide ((1048576 : Int) < (text.length : Int)) = false := by simp; omega
  have t6 : decide ((1048576 : Int) - (text.length : Int) < (data.length : Int)) = false := by simp; omega
  have hb1 : text.length ≤ 1048576 := by omega
  have hb2 : data.length ≤ 1048576 := by omega
  have hb3 : text.length + data.length ≤ 1048576 := by omega
  have hB2 := form2 w (.map #[] 0) (.cells #[.slice TA text.length tc, .slice DA data.length dc, .int .u64 (at_ : Int), .int .u64 (dat : Int), .map (some w.heap.size), .slice none 0 0] 86)
  have hPm0 : Pm w.heap.size ((w.alloc (.map #[] 0)).alloc (.cells #[.slice TA text.length tc, .slice DA data.length dc, .int .u64 (at_ : Int), .int .u64 (dat : Int), .map (some w.heap.size), .slice none 0 0] 86)) (w.heap.size + 1) TA tc text DA dc data at_ dat w.heap.size 0 (fun _ => none) (.slice none 0 0) [] := by
    have hx := heap_alloc_new (w.alloc (.map #[] 0)) (.cells #[.slice TA text.length tc, .slice DA data.length dc, .int .u64 (at_ : Int), .int .u64 (dat : Int), .map (some w.heap.size), .slice none 0 0] 86)
    rw [World.size_alloc] at hx
    have ht1 := hT.below hB2
    have hd1 := hD.below hB2
    exact ⟨⟨hx, ht1.more hB2.size, hd1.more hB2.size, hb1, hb2⟩, ht1, hd1, by omega, Nat.le_refl _, (SMap.made w).below (form1 _ _), OwnZ.nil _ _, htz.below hB2, htz.1, hrv.below hB2, hrv.1⟩
  have HPm := Lib.hid hPm0
  have HC := Lib.hid hC
  have HNS := Lib.hid hns
  have hlen : (text ++ data).length = text.length + data.length := List.length_append
  have HN := Lib.hid hlen
  clear h h2 hM hC hPm0 hns hT hD htz hrv hlen
  have hmm := @run_makeMap Tryz.prog
  go_enter Tryz.func28, Tryz.ntmps28
  go_wp2_with fail
  clear t1 t2 t3 t4 t5 t6
  go_loopw [60] (fun i wr => ∃ (k nm : Nat) (F : Names), k ≤ text.length + data.length ∧ nm ≤ k ∧ i = .int .i64 k ∧ chk1 text.length k ((text ++ data).drop k) F = C ∧ Pm w.heap.size wr (w.heap.size + 1) TA tc text DA dc data at_ dat w.heap.size nm F (.slice none 0 0) [] ∧ Below w.heap.size w wr) (fun i _ => text.length + data.length - (intOf i).toNat)
  case atStart => exact ⟨0, 0, _, Nat.zero_le _, Nat.le_refl _, rfl, HC.out, HPm.out, hB2⟩
  case round =>
    obtain ⟨k, nm, F, hk, hnm, rfl, hd, hPr, hB⟩ := hrel
    by_cases hlt : k < text.length + data.length
    · have hka : k < (text ++ data).length := by rw [HN.out]; exact hlt
      have t7b : decide ((k : Int) < (text.length : Int) + (data.length : Int)) = true := decide_eq_true (by omega)
      have hf := chk1_drop text.length (text ++ data) k hka F
      rw [hd] at hf
      have hs := HNS.out _ (List.getElem_mem hka)
      have HI0 := (fun (W : World) (hW : PrAt W (w.heap.size + 1) TA tc text DA dc data at_ dat w.heap.size (.slice none 0 0)) => apitem_any W (w.heap.size + 1) TA tc text DA dc data at_ dat w.heap.size _ hW k hka)
      obtain ⟨x, hx⟩ : ∃ x, (text ++ data)[k] = x := ⟨_, rfl⟩
      rw [hx] at hf hs
      simp only [hx] at HI0
      clear hx hd
      obtain ⟨v0, v1, v2, v3, v4, v5, v6⟩ := x
      have HI := Lib.hid (show ∀ (W : World) (hW : PrAt W (w.heap.size + 1) TA tc text DA dc data at_ dat w.heap.size (.slice none 0 0)), Calls Tryz.prog 32 #[.pointer (some ⟨w.heap.size + 1, 0, none⟩), .int .i64 (k : Int)] W (fun e w' => e = .returned (.agg #[.int .i64 v0, .string v1, .int .i64 v2, .int .i64 v3, .int .i64 v4, .int .i64 v5, .int .i64 v6]) ∧ Below W.heap.size W w') from HI0)
      clear HI0
      generalize t8 : decide (text.length ≤ k) = dd at *
      have HE0 := (fun W hW => aitem_any ⟨v0, v1, v2, v3, v4, v5, v6⟩ dd hs W hW)
      simp only [It.cs] at HE0
      generalize itemE ⟨v0, v1, v2, v3, v4, v5, v6⟩ dd = ev at *
      have HE := Lib.hid HE0
      clear HE0
      have hp := hPr.lt
      by_cases he : ev = 0
      · rw [if_pos he] at hf
        subst he
        by_cases hk1 : v0 = 1
        · rw [if_pos hk1] at hf
          subst hk1
          cases hsm : (F v1.data.toList).isSome with
          | true =>
            rw [hsm, if_pos rfl] at hf
            have HF := Lib.hid hf
            clear hf
            go_wp2_with fail
            with_reducible refine Calls.mono (HI.out _ hPr.pr) ?_
            rintro e w2 ⟨rfl, hB2⟩
            have hP2 := (hPr.keep hB2).keep (form1 w2 (.cells #[.int .i64 1, .string v1, .int .i64 v2, .int .i64 v3, .int .i64 v4, .int .i64 v5, .int .i64 v6] 28))
            have HP2 := Lib.hid hP2
            have HBb := Lib.hid (hB.trans ((hB2.trans (form1a hB2 (.cells #[.int .i64 1, .string v1, .int .i64 v2, .int .i64 v3, .int .i64 v4, .int .i64 v5, .int .i64 v6] 28))).mono hPr.le))
            have hh2 := heap_alloc_new w2 (.cells #[.int .i64 1, .string v1, .int .i64 v2, .int .i64 v3, .int .i64 v4, .int .i64 v5, .int .i64 v6] 28)
            have hp2 := hP2.lt
            clear hP2
            go_wp2_with fail
            with_reducible refine Calls.mono (HE.out _ HP2.out.rv) ?_
            rintro e w3 ⟨rfl, hB3⟩
            have hP3 := HP2.out.keep hB3
            have hbl := (hB3.block w2.heap.size (by rw [World.size_alloc]; omega)).trans hh2
            have g0 : w3.cell? ⟨w2.heap.size, 0, none⟩ = some (.int .i64 1) := (obj_cell hbl 0).trans rfl
            have g1 : w3.cell? ⟨w2.heap.size, 1, none⟩ = some (.string v1) := (obj_cell hbl 1).trans rfl
            have c4 : w3.cell? ⟨w.heap.size + 1, 4, none⟩ = some (.map (some w.heap.size)) := hP3.pr.cell 4
            have HBc := Lib.hid (HBb.out.trans (hB3.mono HP2.out.le))
            have HP3m := Lib.hid hP3
            have hl3 := hP3.lt
            have hlk := fun j => ((hP3.map).keep (w' := w3.drewN j) rfl).lookOk v1 hs
            have hl2 := lt_of_block hbl
            clear hbl hP3 hh2
            simp only [hsm] at hlk
            go_wp2_with fail
            go_quiet (fail)
            go_wp2_with fail
            go_ret3
            exact HP1.out _ _ _ HF.out (bdrewN HBc.out _)
          | false =>
            rw [hsm, if_neg (by decide)] at hf
            have HF := Lib.hid hf.symm
            clear hf
            go_wp2_with fail
            with_reducible refine Calls.mono (HI.out _ hPr.pr) ?_
            rintro e w2 ⟨rfl, hB2⟩
            have hP2 := (hPr.keep hB2).keep (form1 w2 (.cells #[.int .i64 1, .string v1, .int .i64 v2, .int .i64 v3, .int .i64 v4, .int .i64 v5, .int .i64 v6] 28))
            have HP2 := Lib.hid hP2
            have HBb := Lib.hid (hB.trans ((hB2.trans (form1a hB2 (.cells #[.int .i64 1, .string v1, .int .i64 v2, .int .i64 v3, .int .i64 v4, .int .i64 v5, .int .i64 v6] 28))).mono hPr.le))
            have hh2 := heap_alloc_new w2 (.cells #[.int .i64 1, .string v1, .int .i64 v2, .int .i64 v3, .int .i64 v4, .int .i64 v5, .int .i64 v6] 28)
            have hp2 := hP2.lt
            clear hP2
            go_wp2_with fail
            with_reducible refine Calls.mono (HE.out _ HP2.out.rv) ?_
            rintro e w3 ⟨rfl, hB3⟩
            have hP3 := HP2.out.keep hB3
            have hbl := (hB3.block w2.heap.size (by rw [World.size_alloc]; omega)).trans hh2
            have g0 : w3.cell? ⟨w2.heap.size, 0, none⟩ = some (.int .i64 1) := (obj_cell hbl 0).trans rfl
            have g1 : w3.cell? ⟨w2.heap.size, 1, none⟩ = some (.string v1) := (obj_cell hbl 1).trans rfl
            have c4 : w3.cell? ⟨w.heap.size + 1, 4, none⟩ = some (.map (some w.heap.size)) := hP3.pr.cell 4
            have HBc := Lib.hid (HBb.out.trans (hB3.mono HP2.out.le))
            have HP3m := Lib.hid hP3
            have hl3 := hP3.lt
            have hlk := fun j => ((hP3.map).keep (w' := w3.drewN j) rfl).lookOk v1 hs
            have hl2 := lt_of_block hbl
            clear hbl hP3 hh2
            simp only [hsm] at hlk
            go_wp2_with fail
            go_quiet (fail)
            go_wp2_with fail
            obtain ⟨W4, hW4⟩ : ∃ W4 : World, W4 = w3.drewN nq := ⟨_, rfl⟩
            rw [← hW4]
            have hB4 : Below w3.heap.size w3 W4 := by rw [hW4]; exact bdrewN (Below.refl _ _) _
            have hP4 := HP3m.out.keep hB4
            have k0 := (hB4.cell (p := ⟨w2.heap.size, 0, none⟩) hl2).trans g0
            have k1 := (hB4.cell (p := ⟨w2.heap.size, 1, none⟩) hl2).trans g1
            have c44 : W4.cell? ⟨w.heap.size + 1, 4, none⟩ = some (.map (some w.heap.size)) := hP4.pr.cell 4
            have hput := ((hP4.map).keep (w' := W4.drew) rfl).put (by unfold maxLen; omega) v1 hs 0 (by decide)
            obtain ⟨pw, hpe0, hpw⟩ := hput
            have hpe : (Instr.mapUpdate 84 (.map (some w.heap.size)) (.string v1) (.int .u64 0)).run Tryz.prog W4.drew = .ok () pw := hpe0
            clear hpe0
            have hpm := ((hP4.keep (Below.refl _ _).drew).put hpw.1 hpw.2)
            have HM := Lib.hid hpm.1
            have HB := Lib.hid ((HBc.out.trans (hB4.mono HP3m.out.le)).trans ((Below.refl _ _).drew.trans hpm.2))
            clear hpm hpw hP4 hW4 hlk
            go_region
            go_wp2_with fail
            go_roundw
            case rel => exact ⟨k + 1, nm + 1, _, by omega, by omega, by go_num, HF.out, HM.out, HB.out⟩
            case measure => simp [intOf]; omega
        · rw [if_neg hk1] at hf
          have HF := Lib.hid hf.symm
          have tk : (v0 == 1) = false := by simpa using hk1
          clear hf hk1
          go_wp2_with fail
          with_reducible refine Calls.mono (HI.out _ hPr.pr) ?_
          rintro e w2 ⟨rfl, hB2⟩
          have hP2 := (hPr.keep hB2).keep (form1 w2 (.cells #[.int .i64 v0, .string v1, .int .i64 v2, .int .i64 v3, .int .i64 v4, .int .i64 v5, .int .i64 v6] 28))
          have HP2 := Lib.hid hP2
          have HBb := Lib.hid (hB.trans ((hB2.trans (form1a hB2 (.cells #[.int .i64 v0, .string v1, .int .i64 v2, .int .i64 v3, .int .i64 v4, .int .i64 v5, .int .i64 v6] 28))).mono hPr.le))
          have hh2 := heap_alloc_new w2 (.cells #[.int .i64 v0, .string v1, .int .i64 v2, .int .i64 v3, .int .i64 v4, .int .i64 v5, .int .i64 v6] 28)
          have hp2 := hP2.lt
          clear hP2
          go_wp2_with fail
          with_reducible refine Calls.mono (HE.out _ HP2.out.rv) ?_
          rintro e w3 ⟨rfl, hB3⟩
          have hP3 := HP2.out.keep hB3
          have hbl := (hB3.block w2.heap.size (by rw [World.size_alloc]; omega)).trans hh2
          have g0 : w3.cell? ⟨w2.heap.size, 0, none⟩ = some (.int .i64 v0) := (obj_cell hbl 0).trans rfl
          have g1 : w3.cell? ⟨w2.heap.size, 1, none⟩ = some (.string v1) := (obj_cell hbl 1).trans rfl
          have c4 : w3.cell? ⟨w.heap.size + 1, 4, none⟩ = some (.map (some w.heap.size)) := hP3.pr.cell 4
          have HBc := Lib.hid (HBb.out.trans (hB3.mono HP2.out.le))
          have HP3m := Lib.hid hP3
          have hl3 := hP3.lt
          have hlk := fun j => ((hP3.map).keep (w' := w3.drewN j) rfl).lookOk v1 hs
          have hl2 := lt_of_block hbl
          clear hbl hP3 hh2
          clear hlk
          go_wp2_with fail
          go_roundw
          case rel => exact ⟨k + 1, nm, _, by omega, by omega, by go_num, HF.out, HP3m.out, HBc.out⟩
          case measure => simp [intOf]; omega
      · rw [if_neg he] at hf
        have HF := Lib.hid hf
        have te : (ev != 0) = true := by simpa using he
        clear hf he
        go_wp2_with fail
        with_reducible refine Calls.mono (HI.out _ hPr.pr) ?_
        rintro e w2 ⟨rfl, hB2⟩
        have hP2 := (hPr.keep hB2).keep (form1 w2 (.cells #[.int .i64 v0, .string v1, .int .i64 v2, .int .i64 v3, .int .i64 v4, .int .i64 v5, .int .i64 v6] 28))
        have HP2 := Lib.hid hP2
        have HBb := Lib.hid (hB.trans ((hB2.trans (form1a hB2 (.cells #[.int .i64 v0, .string v1, .int .i64 v2, .int .i64 v3, .int .i64 v4, .int .i64 v5, .int .i64 v6] 28))).mono hPr.le))
        have hh2 := heap_alloc_new w2 (.cells #[.int .i64 v0, .string v1, .int .i64 v2, .int .i64 v3, .int .i64 v4, .int .i64 v5, .int .i64 v6] 28)
        have hp2 := hP2.lt
        clear hP2
        go_wp2_with fail
        with_reducible refine Calls.mono (HE.out _ HP2.out.rv) ?_
        rintro e w3 ⟨rfl, hB3⟩
        have hP3 := HP2.out.keep hB3
        have hbl := (hB3.block w2.heap.size (by rw [World.size_alloc]; omega)).trans hh2
        have g0 : w3.cell? ⟨w2.heap.size, 0, none⟩ = some (.int .i64 v0) := (obj_cell hbl 0).trans rfl
        have g1 : w3.cell? ⟨w2.heap.size, 1, none⟩ = some (.string v1) := (obj_cell hbl 1).trans rfl
        have c4 : w3.cell? ⟨w.heap.size + 1, 4, none⟩ = some (.map (some w.heap.size)) := hP3.pr.cell 4
        have HBc := Lib.hid (HBb.out.trans (hB3.mono HP2.out.le))
        have HP3m := Lib.hid hP3
        have hl3 := hP3.lt
        have hlk := fun j => ((hP3.map).keep (w' := w3.drewN j) rfl).lookOk v1 hs
        have hl2 := lt_of_block hbl
        clear hbl hP3 hh2
        clear hlk
        go_wp2_with fail
        go_ret3
        exact HP1.out _ _ _ HF.out HBc.out
    · have t7 : decide ((k : Int) < ((text.length + data.length : Nat) : Int)) = false := decide_eq_false (by omega)
      have t7b : decide ((k : Int) < (text.length : Int) + (data.length : Int)) = false := decide_eq_false (by omega)
      obtain rfl : k = text.length + data.length := by omega
      rw [show (text ++ data).drop (text.length + data.length) = [] from List.drop_of_length_le (by rw [HN.out]; omega)] at hd
      have HC2 := Lib.hid (show C = .inr F from hd.symm)
      have HPs := Lib.hid hPr
      clear hd hPr
      go_wp2_with fail
      go_loopw [100] (fun i wr => ∃ (k : Nat), k ≤ text.length ∧ i = .int .i64 k ∧ chk2 F k (text.drop k) = chk2 F 0 text ∧ Pm w.heap.size wr (w.heap.size + 1) TA tc text DA dc data at_ dat w.heap.size nm F (.slice none 0 0) [] ∧ Below w.heap.size w wr) (fun i _ => text.length - (intOf i).toNat)
      case atStart => exact ⟨0, Nat.zero_le _, rfl, rfl, HPs.out, hB⟩
      case round =>
        obtain ⟨k, hk, rfl, hd, hPr, hB⟩ := hrel
        by_cases hlt : k < text.length
        · have t9 : decide ((k : Int) < (text.length : Int)) = true := decide_eq_true (by omega)
          have hf := chk2_drop F text k hlt
          rw [hd] at hf
          have hs := HNS.out _ (List.mem_append_left data (List.getElem_mem hlt))
          have HI0 := (fun (W : World) (hW : PrAt W (w.heap.size + 1) TA tc text DA dc data at_ dat w.heap.size (.slice none 0 0)) => apitem_text W (w.heap.size + 1) TA tc text DA dc data at_ dat w.heap.size _ hW k hlt)
          obtain ⟨x, hx⟩ : ∃ x, text[k] = x := ⟨_, rfl⟩
          rw [hx] at hf hs
          simp only [hx] at HI0
          clear hx hd
          obtain ⟨v0, v1, v2, v3, v4, v5, v6⟩ := x
          have HI := Lib.hid (show ∀ (W : World) (hW : PrAt W (w.heap.size + 1) TA tc text DA dc data at_ dat w.heap.size (.slice none 0 0)), Calls Tryz.prog 32 #[.pointer (some ⟨w.heap.size + 1, 0, none⟩), .int .i64 (k : Int)] W (fun e w' => e = .returned (.agg #[.int .i64 v0, .string v1, .int .i64 v2, .int .i64 v3, .int .i64 v4, .int .i64 v5, .int .i64 v6]) ∧ Below W.heap.size W w') from HI0)
          clear HI0
          have hp := hPr.lt
          cases hsm : (F v1.data.toList).isSome with
          | true =>
            rw [hsm, if_neg (by simp)] at hf
            have HF := Lib.hid hf.symm
            clear hf
            cases hv : (v1.toList == ([] : List UInt8)) with
            | true =>
              have hv2 : (v1.toList != ([] : List UInt8)) = !(v1.toList == ([] : List UInt8)) := rfl
              rw [hv] at hv2
              simp only [Bool.not_true] at hv2
              go_wp2_with fail
              with_reducible refine Calls.mono (HI.out _ hPr.pr) ?_
              rintro e w2 ⟨rfl, hB2⟩
              have hP2 := (hPr.keep hB2).keep (form1 w2 (.cells #[.int .i64 v0, .string v1, .int .i64 v2, .int .i64 v3, .int .i64 v4, .int .i64 v5, .int .i64 v6] 28))
              have HP2 := Lib.hid hP2
              have HBb := Lib.hid (hB.trans ((hB2.trans (form1a hB2 (.cells #[.int .i64 v0, .string v1, .int .i64 v2, .int .i64 v3, .int .i64 v4, .int .i64 v5, .int .i64 v6] 28))).mono hPr.le))
              have hp2 := (hPr.keep hB2).lt
              have c4 : w2.cell? ⟨w.heap.size + 1, 4, none⟩ = some (.map (some w.heap.size)) := (hPr.keep hB2).pr.cell 4
              have hlk := fun j => ((hP2.map).keep (w' := (w2.alloc (.cells #[.int .i64 v0, .string v1, .int .i64 v2, .int .i64 v3, .int .i64 v4, .int .i64 v5, .int .i64 v6] 28)).drewN j) rfl).lookOk v1 hs
              clear hP2
              simp only [hsm] at hlk
              go_wp2_with fail
              go_quiet (fail)
              go_wp2_with fail
              go_roundw
              case rel => first | exact ⟨k + 1, by omega, by go_num, HF.out, HP2.out.keep (bdrewN (Below.refl _ _) _), bdrewN HBb.out _⟩ | (refine ⟨_, _, _, _, _, _, _, _, _, _, _, _, _, _, _, _, _, _, _, _, _, _, _, _, _, _, _, _, _, _, _, _, ?_, rfl⟩; exact ⟨k + 1, by omega, by go_num, HF.out, HP2.out.keep (bdrewN (Below.refl _ _) _), bdrewN HBb.out _⟩)
              case measure => simp [intOf]; omega
            | false =>
              have hv2 : (v1.toList != ([] : List UInt8)) = !(v1.toList == ([] : List UInt8)) := rfl
              rw [hv] at hv2
              simp only [Bool.not_false] at hv2
              go_wp2_with fail
              with_reducible refine Calls.mono (HI.out _ hPr.pr) ?_
              rintro e w2 ⟨rfl, hB2⟩
              have hP2 := (hPr.keep hB2).keep (form1 w2 (.cells #[.int .i64 v0, .string v1, .int .i64 v2, .int .i64 v3, .int .i64 v4, .int .i64 v5, .int .i64 v6] 28))
              have HP2 := Lib.hid hP2
              have HBb := Lib.hid (hB.trans ((hB2.trans (form1a hB2 (.cells #[.int .i64 v0, .string v1, .int .i64 v2, .int .i64 v3, .int .i64 v4, .int .i64 v5, .int .i64 v6] 28))).mono hPr.le))
              have hp2 := (hPr.keep hB2).lt
              have c4 : w2.cell? ⟨w.heap.size + 1, 4, none⟩ = some (.map (some w.heap.size)) := (hPr.keep hB2).pr.cell 4
              have hlk := fun j => ((hP2.map).keep (w' := (w2.alloc (.cells #[.int .i64 v0, .string v1, .int .i64 v2, .int .i64 v3, .int .i64 v4, .int .i64 v5, .int .i64 v6] 28)).drewN j) rfl).lookOk v1 hs
              clear hP2
              simp only [hsm] at hlk
              go_wp2_with fail
              go_quiet (fail)
              go_wp2_with fail
              go_roundw
              case rel => first | exact ⟨k + 1, by omega, by go_num, HF.out, HP2.out.keep (bdrewN (Below.refl _ _) _), bdrewN HBb.out _⟩ | (refine ⟨_, _, _, _, _, _, _, _, _, _, _, _, _, _, _, _, _, _, _, _, _, _, _, _, _, _, _, _, _, _, _, _, ?_, rfl⟩; exact ⟨k + 1, by omega, by go_num, HF.out, HP2.out.keep (bdrewN (Below.refl _ _) _), bdrewN HBb.out _⟩)
              case measure => simp [intOf]; omega
          | false =>
            cases hv : (v1.toList == ([] : List UInt8)) with
            | true =>
              have hv2 : (v1.toList != ([] : List UInt8)) = !(v1.toList == ([] : List UInt8)) := rfl
              rw [hv] at hv2
              simp only [Bool.not_true] at hv2
              rw [hsm, if_neg (by simp only [beq_iff_eq] at hv; simp [hv])] at hf
              have HF := Lib.hid hf.symm
              clear hf
              go_wp2_with fail
              with_reducible refine Calls.mono (HI.out _ hPr.pr) ?_
              rintro e w2 ⟨rfl, hB2⟩
              have hP2 := (hPr.keep hB2).keep (form1 w2 (.cells #[.int .i64 v0, .string v1, .int .i64 v2, .int .i64 v3, .int .i64 v4, .int .i64 v5, .int .i64 v6] 28))
              have HP2 := Lib.hid hP2
              have HBb := Lib.hid (hB.trans ((hB2.trans (form1a hB2 (.cells #[.int .i64 v0, .string v1, .int .i64 v2, .int .i64 v3, .int .i64 v4, .int .i64 v5, .int .i64 v6] 28))).mono hPr.le))
              have hp2 := (hPr.keep hB2).lt
              have c4 : w2.cell? ⟨w.heap.size + 1, 4, none⟩ = some (.map (some w.heap.size)) := (hPr.keep hB2).pr.cell 4
              have hlk := fun j => ((hP2.map).keep (w' := (w2.alloc (.cells #[.int .i64 v0, .string v1, .int .i64 v2, .int .i64 v3, .int .i64 v4, .int .i64 v5, .int .i64 v6] 28)).drewN j) rfl).lookOk v1 hs
              clear hP2
              simp only [hsm] at hlk
              go_wp2_with fail
              go_quiet (fail)
              go_wp2_with fail
              go_roundw
              case rel => first | exact ⟨k + 1, by omega, by go_num, HF.out, HP2.out.keep (bdrewN (Below.refl _ _) _), bdrewN HBb.out _⟩ | (refine ⟨_, _, _, _, _, _, _, _, _, _, _, _, _, _, _, _, _, _, _, _, _, _, _, _, _, _, _, _, _, _, _, _, ?_, rfl⟩; exact ⟨k + 1, by omega, by go_num, HF.out, HP2.out.keep (bdrewN (Below.refl _ _) _), bdrewN HBb.out _⟩)
              case measure => simp [intOf]; omega
            | false =>
              have hv2 : (v1.toList != ([] : List UInt8)) = !(v1.toList == ([] : List UInt8)) := rfl
              rw [hv] at hv2
              simp only [Bool.not_false] at hv2
              rw [hsm, if_pos ⟨by simpa using hv, rfl⟩] at hf
              have HF := Lib.hid hf
              clear hf
              go_wp2_with fail
              with_reducible refine Calls.mono (HI.out _ hPr.pr) ?_
              rintro e w2 ⟨rfl, hB2⟩
              have hP2 := (hPr.keep hB2).keep (form1 w2 (.cells #[.int .i64 v0, .string v1, .int .i64 v2, .int .i64 v3, .int .i64 v4, .int .i64 v5, .int .i64 v6] 28))
              have HP2 := Lib.hid hP2
              have HBb := Lib.hid (hB.trans ((hB2.trans (form1a hB2 (.cells #[.int .i64 v0, .string v1, .int .i64 v2, .int .i64 v3, .int .i64 v4, .int .i64 v5, .int .i64 v6] 28))).mono hPr.le))
              have hp2 := (hPr.keep hB2).lt
              have c4 : w2.cell? ⟨w.heap.size + 1, 4, none⟩ = some (.map (some w.heap.size)) := (hPr.keep hB2).pr.cell 4
              have hlk := fun j => ((hP2.map).keep (w' := (w2.alloc (.cells #[.int .i64 v0, .string v1, .int .i64 v2, .int .i64 v3, .int .i64 v4, .int .i64 v5, .int .i64 v6] 28)).drewN j) rfl).lookOk v1 hs
              clear hP2
              simp only [hsm] at hlk
              go_wp2_with fail
              go_quiet (fail)
              go_wp2_with fail
              go_ret3
              exact HP2x.out _ _ _ HC2.out HF.out (bdrewN HBb.out _)
        · have t9 : decide ((k : Int) < (text.length : Int)) = false := decide_eq_false (by omega)
          obtain rfl : k = text.length := by omega
          rw [List.drop_length] at hd
          have HF := Lib.hid (show chk2 F 0 text = none from hd.symm)
          have HPf := Lib.hid hPr
          clear hd hPr
          go_wp2_with fail
          go_ret3
          exact HP3.out _ _ _ HC2.out HF.out (by omega) hB HPf.out
theorem abegin_any (hT : Cs w.heap.size w TA (tcells text)) (hD : Cs w.heap.size w DA (tcells data)) (hns : ∀ x ∈ text ++ data, x.s.size ≤ maxLen) (htz : TzTab w) (hrv : RvRows w) (ht : text.length ≤ maxLen) (hd : data.length ≤ maxLen) :
    Calls Tryz.prog 28 #[.slice TA text.length tc, .slice DA data.length dc, .int .u64 (at_ : Int), .int .u64 (dat : Int)] w (BegTo w TA tc text DA dc data at_ dat) := by
  by_cases h : at_ % 4 ≠ 0 ∨ dat % 8 ≠ 0 ∨ 1099511627776 < at_ ∨ 1099511627776 < dat
  · exact abegin_bad w TA tc text DA dc data at_ dat h
  · by_cases h2 : 1048576 < text.length ∨ 1048576 - text.length < data.length
    · exact abegin_long w TA tc text DA dc data at_ dat h h2 ht hd
    · exact abegin_main w TA tc text DA dc data at_ dat h h2 hT hD hns htz hrv
end
end Go.Proofs

/- (*program).relax: items become longer until all reach. -/
namespace Go.Proofs
open Go Go.RowKit Go.Pat
theorem mu_exists {Q : Value → World → Nat → Prop} (hu : ∀ q w a b, Q q w a → Q q w b → a = b) : ∃ μ : Value → World → Nat, ∀ q w m, Q q w m → μ q w = m :=
  ⟨fun q w => Classical.epsilon (Q q w), fun q w m h => hu q w _ _ (Classical.epsilon_spec ⟨m, h⟩) h⟩
theorem lit_z (w : World) (z : Int) : Cs (w.alloc (.cells #[.int .i64 z] 3)).heap.size (w.alloc (.cells #[.int .i64 z] 3)) (some ⟨w.heap.size, 0, none⟩) (zcells [z]) := fun j hj => by
  have h1 : j < 1 := by simpa [zcells] using hj
  obtain rfl : j = 0 := by omega
  refine ⟨w.heap.size, 0, rfl, by rw [World.size_alloc]; omega, ?_⟩
  rw [cell_of_row _ _ _ _ _ (0, 0) (heap_alloc_new w _)]
  simp [zcells]
section
variable (B : Nat) (w : World) (p : Nat) (TA : Option Addr) (tc : Nat) (text : List It) (DA : Option Addr) (dc : Nat) (data : List It) (at_ dat mb nm : Nat) (F : Names)
def RelaxTo (e : Ending) (w' : World) : Prop :=
  e = .returned (.tuple #[]) ∧ Below B w w' ∧ ∃ nm2 sv S, Final text data at_ dat F S ∧ Pm B w' p TA tc text DA dc data at_ dat mb nm2 (layM text data S at_ dat F) sv S
set_option maxRecDepth 20000 in
set_option maxHeartbeats 8000000 in
theorem arelax_any (hP : Pm B w p TA tc text DA dc data at_ dat mb nm F (.slice none 0 0) []) (hnm : nm ≤ 2097152) (hns : ∀ x ∈ text ++ data, x.s.size ≤ maxLen) (hni : ∀ x ∈ text ++ data, -9223372036854775808 ≤ x.n ∧ x.n < 9223372036854775808)
    (hat : at_ < 18446744073709551616) (hdat : dat < 18446744073709551616) : Calls Tryz.prog 29 #[.pointer (some ⟨p, 0, none⟩)] w (RelaxTo B w p TA tc text DA dc data at_ dat mb F) := by
  have c0 : w.cell? ⟨p, 0, none⟩ = some (.slice TA text.length tc) := hP.pr.cell 0
  have htl := hP.pr.tl
  have hdl := hP.pr.dl
  have HNS := Lib.hid hns
  have HNI := Lib.hid hni
  have hp0 := hP.lt
  have hpB := hP.hp
  have HP0 := Lib.hid (show ∃ sv, Pm B w p TA tc text DA dc data at_ dat mb nm F sv ((text.map leastM).take 0) from ⟨_, hP⟩)
  have HRT := Lib.hid (show ∀ W nm2 sv S, Final text data at_ dat F S → Pm B W p TA tc text DA dc data at_ dat mb nm2 (layM text data S at_ dat F) sv S → Below B w W → RelaxTo B w p TA tc text DA dc data at_ dat mb F (.returned (.tuple #[])) W from fun W nm2 sv S h1 h2 h3 => ⟨rfl, h3, nm2, sv, S, h1, h2⟩)
  generalize RelaxTo B w p TA tc text DA dc data at_ dat mb F = PP at *
  clear hns hni hP
  go_enter Tryz.func29, Tryz.ntmps29
  go_wp2_with fail
  go_loopw [13] (fun i wr => ∃ (k : Nat) (sv : Value), k ≤ text.length ∧ i = .int .i64 k ∧ Pm B wr p TA tc text DA dc data at_ dat mb nm F sv ((text.map leastM).take k) ∧ Below B w wr) (fun i _ => text.length - (intOf i).toNat)
  case atStart =>
    obtain ⟨sv, h⟩ := HP0.out
    exact ⟨0, sv, Nat.zero_le _, rfl, h, Below.refl _ _⟩
  case round =>
    obtain ⟨k, sv, hk, rfl, hPr, hB⟩ := hrel
    by_cases hlt : k < text.length
    · have t1 : decide ((k : Int) < (text.length : Int)) = true := decide_eq_true (by omega)
      have hku : (k : Int) < (text.length : Int) := by omega
      obtain ⟨b, o, e0, hb, x0, x1, x2, x3, x4, x5, x6⟩ := item_at hPr.tx2 k hlt
      cases e0
      have HA0 := (fun W hW => aleast_any text[k] (HNI.out text[k] (List.mem_append_left _ (List.getElem_mem hlt))) W hW)
      have hcs : (text[k]).cs = #[.int .i64 (text[k]).k, .string (text[k]).s, .int .i64 (text[k]).op, .int .i64 (text[k]).rd, .int .i64 (text[k]).a, .int .i64 (text[k]).b, .int .i64 (text[k]).n] := rfl
      rw [hcs] at HA0
      clear hcs
      have hSk : (text.map leastM).take (k + 1) = (text.map leastM).take k ++ [leastM text[k]] := by rw [List.take_add_one, List.getElem?_map, List.getElem?_eq_getElem hlt]; rfl
      have hlk : ((text.map leastM).take k).length = k := by simp; omega
      generalize leastM text[k] = sz at *
      generalize (text.map leastM).take k = Sk at *
      generalize text[k].k = v0 at *
      generalize text[k].s = v1 at *
      generalize text[k].op = v2 at *
      generalize text[k].rd = v3 at *
      generalize text[k].a = v4 at *
      generalize text[k].b = v5 at *
      generalize text[k].n = v6 at *
      have HSK := Lib.hid hSk
      obtain ⟨A, c, e1, hA⟩ := hPr.szs.form
      rw [hlk] at e1
      subst e1
      obtain ⟨W1, hW1⟩ : ∃ W1, W1 = wr.alloc (.cells #[.int .i64 v0, .string v1, .int .i64 v2, .int .i64 v3, .int .i64 v4, .int .i64 v5, .int .i64 v6] 28) := ⟨_, rfl⟩
      have hB1 : Below wr.heap.size wr W1 := by rw [hW1]; exact form1 wr _
      have hbl : W1.heap[wr.heap.size]? = some (.cells #[.int .i64 v0, .string v1, .int .i64 v2, .int .i64 v3, .int .i64 v4, .int .i64 v5, .int .i64 v6] 28 (0, 0)) := by rw [hW1]; exact heap_alloc_new wr _
      have hP1 := hPr.keep hB1
      have HW := Lib.hid hW1
      have g0 : W1.cell? ⟨wr.heap.size, 0, none⟩ = some (.int .i64 v0) := (obj_cell hbl 0).trans rfl
      have g1 : W1.cell? ⟨wr.heap.size, 1, none⟩ = some (.string v1) := (obj_cell hbl 1).trans rfl
      have g2 : W1.cell? ⟨wr.heap.size, 2, none⟩ = some (.int .i64 v2) := (obj_cell hbl 2).trans rfl
      have g3 : W1.cell? ⟨wr.heap.size, 3, none⟩ = some (.int .i64 v3) := (obj_cell hbl 3).trans rfl
      have g4 : W1.cell? ⟨wr.heap.size, 4, none⟩ = some (.int .i64 v4) := (obj_cell hbl 4).trans rfl
      have g5 : W1.cell? ⟨wr.heap.size, 5, none⟩ = some (.int .i64 v5) := (obj_cell hbl 5).trans rfl
      have g6 : W1.cell? ⟨wr.heap.size, 6, none⟩ = some (.int .i64 v6) := (obj_cell hbl 6).trans rfl
      have p5 : W1.cell? ⟨p, 5, none⟩ = some (.slice A k c) := hP1.pr.cell 5
      have p5f : W1.frozen? ⟨p, 5, none⟩ = false := obj_frozen hP1.pr.str 5
      have hp1 := hP1.lt
      have hTd : TzTab W1.drew := hP1.tz.below (Below.refl _ _).drew
      have HA := Lib.hid (HA0 W1.drew hTd)
      have HP1 := Lib.hid hP1
      have HB1 := Lib.hid (hB.trans (hB1.mono hPr.le))
      clear HA0 hTd hP1 hW1 hSk hA hbl hPr
      go_upto_region 3 with fail
      rw [← HW.out]
      go_region_law (first
        | (go_simp
           go_at_call 59
           with_reducible refine HA.out.mono ?_
           rintro e w3 ⟨rfl, hB3⟩
           have q5 : w3.cell? ⟨p, 5, none⟩ = some (.slice A k c) := (hB3.cell (p := ⟨p, 5, none⟩) hp1).trans p5
           have hp3 : p < w3.heap.size := Nat.lt_of_lt_of_le hp1 hB3.size
           have q5f : w3.frozen? ⟨p, 5, none⟩ = false := (hB3.frozen (p := ⟨p, 5, none⟩) hp1).trans p5f)
        | (refine step_appZ rfl (.tmp 21) (.tmp 24) rfl B (.slice A k c) Sk rfl (owns_below (owns_below HP1.out.szs (show Below W1.heap.size W1 w3 from ⟨hB3.os, hB3.tape, hB3.output, hB3.size, hB3.block⟩)) (form1 w3 _)) _ _ 1 1 [sz] rfl rfl (lit_z w3 sz) (by simp; omega) (by rw [World.size_alloc]; have := HP1.out.le; have h2 : W1.heap.size ≤ w3.heap.size := hB3.size; omega) ?_
           intro v3 w4 hown4 hB4 hk4 hs4
           have hk5 : ∀ g, g < W1.heap.size → (Value.slice A k c).ownBlock ≠ some g → w4.heap[g]? = W1.heap[g]? := fun g hg hne => by
             have h2 : W1.heap.size ≤ w3.heap.size := hB3.size
             rw [hk4 g (by rw [World.size_alloc]; omega) hne, Below.heap_alloc _ _ g (by omega)]
             exact hB3.block g hg
           have hB5 : Below B W1 w4 := hB4 W1 (((show Below W1.heap.size W1 w3 from ⟨hB3.os, hB3.tape, hB3.output, hB3.size, hB3.block⟩).mono HP1.out.le).alloc (Nat.le_trans HP1.out.le hB3.size) _)
           obtain ⟨A4, c4, e4, _⟩ := hown4.form
           rw [show (Sk ++ [sz]).length = k + 1 by simp [hlk]] at e4
           subst e4
           have hrest := HP1.out.rest hB5 hk5 hown4
           have hstr4 := (hk5 p hp1 (fun e => by obtain ⟨_, cur, hc⟩ := owns_block HP1.out.szs e; rw [HP1.out.pr.str] at hc; cases hc)).trans HP1.out.pr.str
           have r5 : w4.cell? ⟨p, 5, none⟩ = some (.slice A k c) := obj_cell hstr4 5
           have r5f := obj_frozen hstr4 5
           have hp4 := lt_of_block hstr4
           have HR := Lib.hid hrest
           clear hrest hstr4 hown4 hB4 hk4 hk5 hB5))
      all_goals
        go_wp2_with fail
        go_roundw
        case rel => exact ⟨k + 1, _, by omega, by go_num, by rw [HSK.out]; exact HR.out.1, HB1.out.trans HR.out.2⟩
        case measure => simp [intOf]; omega
    · have t1 : decide ((k : Int) < (text.length : Int)) = false := decide_eq_false (by omega)
      obtain rfl : k = text.length := by omega
      rw [List.take_of_length_le (by simp)] at hPr
      have HP1 := Lib.hid hPr
      have HB1 := Lib.hid hB
      clear hPr hB
      obtain ⟨μ, hμ⟩ := mu_exists (Q := fun q wr m => ∃ (c : Bool) (nm2 : Nat) (F2 : Names) (sv : Value) (S : List Int), q = .bool c ∧ Pm B wr p TA tc text DA dc data at_ dat mb nm2 F2 sv S ∧ m = roomL (text.zip S) + (if c then 1 else 0)) (by
        rintro q w1 a1 a2 ⟨c, n1, F1, s1, S1, rfl, h1, rfl⟩ ⟨c2, n2, F2, s2, S2, e, h2, rfl⟩
        cases e
        have h3 := h1.pr.str
        rw [h2.pr.str] at h3
        simp at h3
        obtain rfl := h3
        rw [OwnZ.one h1.szs h2.szs])
      have HMU := Lib.hid hμ
      clear hμ
      go_wp2_with fail
      go_loopw [4] (fun q wr => ∃ (c : Bool) (j nm2 : Nat) (F2 : Names) (sv : Value), q = .bool c ∧ Pm B wr p TA tc text DA dc data at_ dat mb nm2 F2 sv (roundsM text data at_ dat F j) ∧ Below B w wr ∧ (c = false → nextM text data at_ dat F (roundsM text data at_ dat F j) = roundsM text data at_ dat F j) ∧
        (∀ S2 : List Int, S2.length = text.length → layM text data S2 at_ dat F2 = layM text data S2 at_ dat F) ∧ nm2 + 2097152 * (roomL (text.zip (roundsM text data at_ dat F j)) + (if c then 1 else 0)) ≤ 4398050705408) (fun q wr => μ q wr)
      case atStart =>
        have hr := roomL_le (text.zip (roundsM text data at_ dat F 0))
        rw [List.length_zip] at hr
        have hr2 : min text.length (roundsM text data at_ dat F 0).length ≤ text.length := Nat.min_le_left _ _
        exact ⟨true, 0, nm, F, sv, rfl, HP1.out, HB1.out, by simp, fun _ _ => rfl, by simp only [if_true]; omega⟩
      case round =>
        obtain ⟨c, j, nm2, F2, sv, rfl, hPr, hB, hc, hF, hnm2⟩ := hrel
        have hlS := roundsM_length text data at_ dat F j
        have HJ := Lib.hid (show roundsM text data at_ dat F (j + 1) = nextM text data at_ dat F (roundsM text data at_ dat F j) from rfl)
        generalize hSj : roundsM text data at_ dat F j = S at *
        have HSj := Lib.hid hSj
        clear hSj
        have hnm3 : nm2 ≤ 100000000000000 := by omega
        have HL := Lib.hid (alay_any B wr p TA tc text DA dc data at_ dat mb nm2 F2 sv S hPr hlS hnm3 HNS.out (fun x hx => HNI.out x (List.mem_append_right _ hx)) hat hdat)
        cases c with
        | false =>
          have HX := Lib.hid (And.intro (hc rfl) (And.intro HJ.out (And.intro (hF S hlS) hB)))
          clear hc hF hPr hnm2 hB
          go_wp2_with fail
          with_reducible refine Calls.mono HL.out ?_
          rintro e w2 ⟨rfl, ⟨nm3, _, hP2⟩, hB2⟩
          have HP2 := Lib.hid hP2
          clear hP2
          go_wp2_with fail
          go_end0
          refine HRT.out w2 nm3 sv S ⟨⟨j, HSj.out.symm⟩, HX.out.1⟩ ?_ (HX.out.2.2.2.trans hB2)
          rw [← HX.out.2.2.1]
          exact HP2.out
        | true =>
          have HX := Lib.hid (And.intro (hF S hlS) (And.intro hnm2 hB))
          have HPs := Lib.hid hPr
          clear hc hF hPr hnm2 hB
          have HlS := Lib.hid hlS
          clear hlS
          go_upto_region 8 with fail
          go_wp2_with fail
          with_reducible refine Calls.mono HL.out ?_
          rintro e w2 ⟨rfl, ⟨nm3, hnm3b, hP2⟩, hB2⟩
          rw [HX.out.1] at hP2
          generalize hF3 : layM text data S at_ dat F = F3 at *
          have HF3 := Lib.hid hF3
          clear hF3
          obtain ⟨A, c, rfl, hA⟩ := hP2.szs.form
          have k2 : w2.cell? ⟨p, 2, none⟩ = some (.int .u64 (at_ : Int)) := hP2.pr.cell 2
          have k5 : w2.cell? ⟨p, 5, none⟩ = some (.slice A S.length c) := hP2.pr.cell 5
          have hp2 := hP2.lt
          have HP2 := Lib.hid hP2
          have HA := Lib.hid hA
          have hB20 := hB2
          clear hP2 hA hB2
          go_wp2_with (at_builtin
                       refine wpList_appZ _ rfl _ _ rfl w2.heap.size (.slice none 0 0) [] rfl (OwnZ.nil _ _) _ A S.length c S rfl rfl HA.out (by have := HlS.out; simp; omega) (Nat.le_refl _) ?_
                       intro v' w3 hown3 hB3 hK3 hN3 hs3
                       rw [List.nil_append] at hown3
                       obtain ⟨A', c', rfl, _⟩ := hown3.form
                       have hP3 := HP2.out.keep (hB3 w2 (Below.refl _ _))
                       have k0 : w3.cell? ⟨p, 0, none⟩ = some (.slice TA text.length tc) := hP3.pr.cell 0
                       have hp3 := hP3.lt
                       have HO3 := Lib.hid hown3
                       have HP3 := Lib.hid hP3
                       have HB3 := Lib.hid (HX.out.2.2.trans (hB20.trans ((hB3 w2 (Below.refl _ _)).mono HP2.out.le)))
                       have hsl : w2.heap.size ≤ w3.heap.size := hs3
                       clear hown3 hP3 hB3 hK3 hN3 hs3)
          go_loopw [4, 5, 46] (fun q a i wr => ∃ (k : Nat) (pre : List Int) (ad : Nat) (cb : Bool), k ≤ text.length ∧ i = .int .i64 k ∧ a = .int .u64 (ad : Int) ∧ ad < 18446744073709551616 ∧ pre.length = k ∧ pre ++ nexts F3 ad ((text.zip S).drop k) = nexts F3 at_ (text.zip S) ∧ q = .bool cb ∧ cb = decide (pre ++ S.drop k ≠ S) ∧
            OwnZ wr w2.heap.size (.slice A' S.length c') (pre ++ S.drop k) ∧ Pm B wr p TA tc text DA dc data at_ dat mb nm3 F3 (.slice A S.length c) S ∧ Below B w wr) (fun _ _ i _ => text.length - (intOf i).toNat)
          case atStart => exact ⟨0, [], at_, false, Nat.zero_le _, rfl, rfl, hat, rfl, rfl, rfl, by simp, HO3.out, HP3.out, HB3.out⟩
          case round =>
            obtain ⟨k, pre, ad, cb, hk, rfl, rfl, had, hpl, hd, rfl, hcb, hown, hPr, hB⟩ := hrel
            by_cases hlt : k < text.length
            · have t1 : decide ((k : Int) < (text.length : Int)) = true := decide_eq_true (by omega)
              have hz : k < (text.zip S).length := by have := HlS.out; simp; omega
              rw [nexts_drop F3 (text.zip S) k hz ad] at hd
              simp only [List.getElem_zip] at hd
              have hkS : k < S.length := by have := HlS.out; omega
              have hkl : (k : Int) < (S.length : Int) := by omega
              obtain ⟨A2, c2, e2, hcs⟩ := hPr.szs.form
              cases e2
              have HFt := Lib.hid (afits_any wr p TA tc text DA dc data at_ dat mb A c S hPr.pr nm3 F3 hPr.map hcs HlS.out k hlt ad (HNS.out _ (List.mem_append_left _ (List.getElem_mem hlt))))
              obtain ⟨b2, o2, e3, hb2, y0⟩ := hPr.size_at k hkS
              cases e3
              have hdrop : S.drop k = S[k] :: S.drop (k + 1) := List.drop_eq_getElem_cons hkS
              have p5 : wr.cell? ⟨p, 5, none⟩ = some (.slice (some ⟨b2, o2, none⟩) S.length c) := hPr.pr.cell 5
              have hpr := hPr.lt
              have HU := Lib.hid (u64_add ad S[k])
              have HUl := Lib.hid (wrN_lt ((ad : Int) + S[k]))
              generalize hfb : fitsM (text[k]).k S[k] (distM F3 (text[k]).s ad) = fb at *
              cases fb with
              | true =>
                simp only [if_true] at hd
                have hown2 : OwnZ wr w2.heap.size (.slice A' S.length c') ((pre ++ [S[k]]) ++ S.drop (k + 1)) := by rw [List.append_assoc, List.singleton_append, ← hdrop]; exact hown
                have HR := Lib.hid (show (pre ++ [S[k]]).length = k + 1 ∧ (pre ++ [S[k]]) ++ nexts F3 (wrN ((ad : Int) + S[k])) ((text.zip S).drop (k + 1)) = nexts F3 at_ (text.zip S) ∧ cb = decide ((pre ++ [S[k]]) ++ S.drop (k + 1) ≠ S) from
                  ⟨by simp [hpl], by rw [← hd, List.append_assoc, List.singleton_append], by rw [hcb, List.append_assoc, List.singleton_append, ← hdrop]⟩)
                generalize S[k] = sz at *
                have HO := Lib.hid hown2
                have HP := Lib.hid hPr
                have HB := Lib.hid hB
                clear hown hown2 hPr hB hcb hd hdrop hfb hpl hcs
                go_wp2_with fail
                with_reducible refine Calls.mono HFt.out ?_
                rintro e w4 ⟨rfl, hB4⟩
                have q5 := (hB4.cell (p := ⟨p, 5, none⟩) hpr).trans p5
                have q6 := (hB4.cell (p := ⟨b2, o2 + k, none⟩) hb2).trans y0
                have hp4 : p < w4.heap.size := Nat.lt_of_lt_of_le hpr hB4.size
                have HR2 := Lib.hid (And.intro (owns_below HO.out hB4) (And.intro (HP.out.keep hB4) (HB.out.trans (hB4.mono HP.out.le))))
                clear hB4
                go_wp2_with fail
                go_roundw
                case rel => exact ⟨k + 1, _, _, cb, by omega, by go_num, congrArg (Value.int .u64) HU.out, HUl.out, HR.out.1, HR.out.2.1, rfl, HR.out.2.2, HR2.out.1, HR2.out.2.1, HR2.out.2.2⟩
                case measure => simp [intOf]; omega
              | false =>
                simp only [Bool.false_eq_true, if_false] at hd
                have h48 := (room_step _ _ _ hfb).1
                have hlen : (pre ++ S.drop k).length = S.length := by rw [List.length_append, List.length_drop]; omega
                obtain ⟨g, cap, e4, hg, cur, hcur⟩ := hown.own (by omega)
                simp only [Value.slice.injEq] at e4
                obtain ⟨rfl, -, rfl⟩ := e4
                obtain ⟨A3, c3, e5, hcs3⟩ := hown.form
                simp only [Value.slice.injEq] at e5
                obtain ⟨rfl, -, rfl⟩ := e5
                obtain ⟨g', o', e6, _, n0⟩ := hcs3 k (by rw [zcells_length]; omega)
                cases e6
                have n1 : wr.cell? ⟨g, k, none⟩ = some (.int .i64 S[k]) := by
                  rw [Nat.zero_add] at n0
                  rw [n0, ← List.getElem?_eq_getElem, zcells, List.getElem?_map, get_mid pre S k hpl hkS]
                  rfl
                have n1f : wr.frozen? ⟨g, k, none⟩ = false := obj_frozen hcur k
                have hgl := lt_of_block hcur
                have hb2w : b2 < w2.heap.size := by
                  obtain ⟨b', o', e7, hb', _⟩ := HP2.out.size_at k hkS
                  cases e7
                  exact hb'
                have hne1 : p ≠ g := by omega
                have hne2 : b2 ≠ g := by omega
                have hset := fun (W : World) (hW : Below wr.heap.size wr W) => OwnZ.set1 (base := w2.heap.size) (owns_below hown hW) hlen k (S[k] + 4)
                simp only [set_mid pre S k hpl hkS] at hset
                have HST := Lib.hid hset
                have hput := fun (W : World) (hW : Below wr.heap.size wr W) => (hPr.keep hW).put2 (g := g) (i := k) (v := .int .i64 (S[k] + 4)) (Nat.le_trans HP2.out.le hg) ⟨cur, (hW.block g hgl).trans hcur⟩ (fun e => hne2 (Option.some.inj e))
                have HPT := Lib.hid hput
                have HR := Lib.hid (show (pre ++ [S[k] + 4]).length = k + 1 ∧ (pre ++ [S[k] + 4]) ++ nexts F3 (wrN ((ad : Int) + S[k])) ((text.zip S).drop (k + 1)) = nexts F3 at_ (text.zip S) ∧ true = decide ((pre ++ [S[k] + 4]) ++ S.drop (k + 1) ≠ S) from
                  ⟨by simp [hpl], by rw [← hd, List.append_assoc, List.singleton_append], (decide_eq_true (mid_ne pre S k hpl hkS _ (by omega))).symm⟩)
                generalize S[k] = sz at *
                have hz1 : 4 ≤ sz := by omega
                have hz2 : sz ≤ 8 := by omega
                have HP := Lib.hid hPr
                have HB := Lib.hid hB
                clear hown hPr hB hcb hd hdrop hfb hpl hcs hset hput hcs3 n0 h48 hlen hcur
                go_wp2_with fail
                with_reducible refine Calls.mono HFt.out ?_
                rintro e w4 ⟨rfl, hB4⟩
                have q5 := (hB4.cell (p := ⟨p, 5, none⟩) hpr).trans p5
                have q6 := (hB4.cell (p := ⟨b2, o2 + k, none⟩) hb2).trans y0
                have q7 := (hB4.cell (p := ⟨g, k, none⟩) hgl).trans n1
                have q7f := (hB4.frozen (p := ⟨g, k, none⟩) hgl).trans n1f
                have hp4 : p < w4.heap.size := Nat.lt_of_lt_of_le hpr hB4.size
                have s5 := fun v => (World.cell?_of_block (Below.heap_setCell w4 ⟨g, k, none⟩ v p hne1) : (w4.setCell ⟨g, k, none⟩ v).cell? ⟨p, 5, none⟩ = _).trans q5
                have s6 := fun v => (World.cell?_of_block (Below.heap_setCell w4 ⟨g, k, none⟩ v b2 hne2) : (w4.setCell ⟨g, k, none⟩ v).cell? ⟨b2, o2 + k, none⟩ = _).trans q6
                have HR2 := Lib.hid (And.intro (HST.out w4 hB4) (And.intro (HPT.out w4 hB4).1 (HB.out.trans ((hB4.mono HP.out.le).trans (HPT.out w4 hB4).2))))
                clear hB4
                go_wp2_with fail
                go_roundw
                case rel => exact ⟨k + 1, _, _, true, by omega, by go_num, congrArg (Value.int .u64) (wrN_is _).symm, HUl.out, HR.out.1, HR.out.2.1, rfl, HR.out.2.2, HR2.out.1, HR2.out.2.1, HR2.out.2.2⟩
                case measure => simp [intOf]; omega
            · have t1 : decide ((k : Int) < (text.length : Int)) = false := decide_eq_false (by omega)
              obtain rfl : k = text.length := by omega
              rw [show (text.zip S).drop text.length = [] from List.drop_of_length_le (by simp; omega)] at hd
              rw [show S.drop text.length = [] from List.drop_of_length_le (by have := HlS.out; omega), List.append_nil] at hown hcb
              have hpre : pre = nexts F3 at_ (text.zip S) := by simpa [nexts] using hd
              have hj1 : pre = roundsM text data at_ dat F (j + 1) := by rw [hpre, HJ.out]; unfold nextM; rw [HF3.out]
              have p5 : wr.cell? ⟨p, 5, none⟩ = some (.slice A S.length c) := hPr.pr.cell 5
              have p5f : wr.frozen? ⟨p, 5, none⟩ = false := obj_frozen hPr.pr.str 5
              have hpr := hPr.lt
              have hrest := hPr.rest (w2 := wr) (v2 := .slice A' S.length c') (S2 := pre) (Below.refl _ _) (fun _ _ _ => rfl) (owns_base hown HP2.out.le)
              have hroom : roomL (text.zip pre) + (if cb then 1 else 0) ≤ roomL (text.zip S) := by
                obtain ⟨r1, r2⟩ := room_nexts F3 text S at_ HlS.out
                rw [← hpre] at r1 r2
                by_cases he : pre = S
                · rw [hcb, decide_eq_false (fun c => c he)]
                  simpa using r1
                · rw [hcb, decide_eq_true he]
                  simpa using r2 he
              have hstay : cb = false → nextM text data at_ dat F (roundsM text data at_ dat F (j + 1)) = roundsM text data at_ dat F (j + 1) := fun h => by
                have he : pre = S := by
                  rw [hcb] at h
                  exact Classical.byContradiction fun c => of_decide_eq_false h c
                rw [← hj1, he, ← HJ.out, ← hj1, he]
              have HN1 := Lib.hid (And.intro hroom hstay)
              have HB := Lib.hid (hB.trans hrest.2)
              have HPn0 := hrest.1
              rw [hj1] at HPn0 hroom
              have HPn := Lib.hid HPn0
              have HRm := Lib.hid hroom
              have HLA := Lib.hid (show ∀ S2 : List Int, S2.length = text.length → layM text data S2 at_ dat F3 = layM text data S2 at_ dat F from fun S2 h2 => by rw [← HF3.out]; exact layM_again h2 HlS.out at_ dat F)
              have HNM := Lib.hid (And.intro hnm3b HX.out.2.1)
              clear hown hPr hB hcb hd hpre hj1 hrest hroom hstay HPn0
              go_wp2_with fail
              go_roundw
              case rel =>
                refine ⟨cb, j + 1, nm3, F3, _, rfl, HPn.out, HB.out, HN1.out.2, HLA.out, ?_⟩
                have h1 := HNM.out
                have h2 := HRm.out
                simp only [if_true] at h1
                omega
              case measure =>
                have m1 := HMU.out (.bool cb) _ _ ⟨cb, nm3, F3, _, _, rfl, HPn.out, rfl⟩
                have m2 := HMU.out (.bool true) _ _ ⟨true, nm2, F2, _, S, rfl, HPs.out, rfl⟩
                have h2 := HRm.out
                refine Nat.lt_of_le_of_lt (Nat.le_of_eq m1) (Nat.lt_of_lt_of_le ?_ (Nat.le_of_eq m2.symm))
                simp only [if_true]
                omega
end
end Go.Proofs

/- asm.Assemble: what a right beginning says of each item; results of type Code. -/
namespace Go.Pat
open Go Go.RowKit Go.Proofs
theorem itemE_ok {x : It} {d : Bool} (h : itemE x d = 0) : okI x d = true ∧ (x.k = 2 → d = false → rightI x.op x.rd x.a x.b x.n = true) := by
  unfold itemE at h
  by_cases h1 : x.k = 2 ∧ d = false ∧ rightI x.op x.rd x.a x.b x.n = false
  · rw [if_pos h1] at h; omega
  · rw [if_neg h1] at h
    constructor
    · by_cases h2 : okI x d = true
      · exact h2
      · rw [if_neg h2] at h; omega
    · intro hk hd
      cases hr : rightI x.op x.rd x.a x.b x.n with
      | true => rfl
      | false => exact absurd ⟨hk, hd, hr⟩ h1
theorem okI_7 {x : It} {d : Bool} (h : okI x d = true) (hk : x.k = 7) : (5 ≤ x.op ∧ x.op ≤ 10) ∧ (0 ≤ x.a ∧ x.a ≤ 31) ∧ (0 ≤ x.b ∧ x.b ≤ 31) ∧ x.rd = 0 ∧ x.n = 0 ∧ namedB x.s = true := by
  unfold okI at h
  rw [hk] at h
  simp [inB2, onlyB] at h
  obtain ⟨⟨⟨⟨⟨h1, h2⟩, h3⟩, h4⟩, h5⟩, h6⟩ := h
  exact ⟨h3, h4, h5, h6.1, h6.2, h2⟩
theorem okI_9 {x : It} {d : Bool} (h : okI x d = true) (hk : x.k = 9) : 0 ≤ x.n ∧ x.n ≤ 1048576 := by
  unfold okI at h
  rw [hk] at h
  simp at h
  exact h.1.1
theorem okI_jump {x : It} {d : Bool} (h : okI x d = true) (hk : x.k = 4 ∨ x.k = 5 ∨ x.k = 6 ∨ x.k = 7) : namedB x.s = true := by
  unfold okI at h
  rcases hk with hk | hk | hk | hk
  · rw [hk] at h; simp at h; exact h.1.2
  · rw [hk] at h; simp at h; exact h.1.2
  · rw [hk] at h; simp at h; exact h.1.2
  · rw [hk] at h; simp at h; exact h.1.1.1.1.2
theorem named_ne {s : ByteArray} (h : namedB s = true) : s.toList ≠ [] := by
  intro e
  rw [Lib.toList_data] at e
  unfold namedB at h
  simp only [Bool.and_eq_true, decide_eq_true_eq] at h
  have h2 := congrArg List.length e
  rw [Array.length_toList] at h2
  have h3 : s.size = s.data.size := rfl
  simp only [List.length_nil] at h2
  omega
structure BegOk (text data : List It) (at_ dat : Nat) (F : Names) : Prop where
  lim : at_ % 4 = 0 ∧ dat % 8 = 0 ∧ at_ ≤ 1099511627776 ∧ dat ≤ 1099511627776 ∧ text.length + data.length ≤ 1048576
  item : ∀ i (hi : i < (text ++ data).length), itemE (text ++ data)[i] (decide (text.length ≤ i)) = 0
  labs : ∀ m, (F m).isSome = true ↔ isLab (text ++ data) m
  ask : ∀ x ∈ text, x.s.toList ≠ [] → (F x.s.data.toList).isSome = true
theorem begM_ok {text data : List It} {at_ dat : Nat} {F : Names} (h : begM text data at_ dat = .inr F) : BegOk text data at_ dat F := by
  by_cases h1 : at_ % 4 ≠ 0 ∨ dat % 8 ≠ 0 ∨ 1099511627776 < at_ ∨ 1099511627776 < dat
  · unfold begM at h; rw [if_pos h1] at h; cases h
  · by_cases h2 : 1048576 < text.length ∨ 1048576 - text.length < data.length
    · unfold begM at h; rw [if_neg h1, if_pos h2] at h; cases h
    · rw [begM_is _ _ _ _ h1 h2] at h
      cases hC : chk1 text.length 0 (text ++ data) (fun _ => none) with
      | inl e => rw [hC, begR_l] at h; cases h
      | inr G =>
        rw [hC] at h
        cases hD : chk2 G 0 text with
        | some n => rw [begR_s _ _ _ hD] at h; cases h
        | none =>
          rw [begR_n _ _ hD] at h
          obtain rfl := Sum.inr.inj h
          obtain ⟨a1, a2⟩ := chk1_ok hC
          refine ⟨by omega, fun i hi => ?_, fun m => (a2 m).trans ⟨fun c => c.elim (fun c => by cases c) id, .inr⟩, chk2_none hD⟩
          have := a1 i hi
          rw [Nat.zero_add] at this
          exact this
theorem begM_err {text data : List It} {at_ dat : Nat} {x : Int × Nat} (h : begM text data at_ dat = .inl x) : x.1 ≠ 0 := by
  have hc : ∀ (l : List It) (n : Nat) (F : Names) (y : Int × Nat), chk1 text.length n l F = .inl y → y.1 ≠ 0 := by
    intro l
    induction l with
    | nil => intro n F y hy; cases hy
    | cons z r ih =>
      intro n F y hy
      rw [chk1] at hy
      by_cases h0 : itemE z (decide (text.length ≤ n)) = 0
      · rw [if_pos h0] at hy
        by_cases hk : z.k = 1
        · rw [if_pos hk] at hy
          by_cases hf : (F z.s.data.toList).isSome = true
          · rw [if_pos hf] at hy
            obtain rfl := Sum.inl.inj hy
            exact (by decide : (51 : Int) ≠ 0)
          · rw [if_neg hf] at hy; exact ih _ _ _ hy
        · rw [if_neg hk] at hy; exact ih _ _ _ hy
      · rw [if_neg h0] at hy
        obtain rfl := Sum.inl.inj hy
        exact h0
  by_cases h1 : at_ % 4 ≠ 0 ∨ dat % 8 ≠ 0 ∨ 1099511627776 < at_ ∨ 1099511627776 < dat
  · unfold begM at h; rw [if_pos h1] at h; obtain rfl := Sum.inl.inj h; decide
  · by_cases h2 : 1048576 < text.length ∨ 1048576 - text.length < data.length
    · unfold begM at h; rw [if_neg h1, if_pos h2] at h; obtain rfl := Sum.inl.inj h; decide
    · rw [begM_is _ _ _ _ h1 h2] at h
      cases hC : chk1 text.length 0 (text ++ data) (fun _ => none) with
      | inl e => rw [hC, begR_l] at h; obtain rfl := Sum.inl.inj h; exact hc _ _ _ _ hC
      | inr G =>
        rw [hC] at h
        cases hD : chk2 G 0 text with
        | some n => rw [begR_s _ _ _ hD] at h; obtain rfl := Sum.inl.inj h; exact (by decide : (50 : Int) ≠ 0)
        | none => rw [begR_n _ _ hD] at h; cases h
theorem BegOk.text {text data : List It} {at_ dat : Nat} {F : Names} (h : BegOk text data at_ dat F) (x : It) (hx : x ∈ text) : itemE x false = 0 := by
  obtain ⟨i, hi, rfl⟩ := List.mem_iff_getElem.1 hx
  have h1 := h.item i (by rw [List.length_append]; omega)
  rw [List.getElem_append_left hi, decide_eq_false (by omega)] at h1
  exact h1
theorem BegOk.data {text data : List It} {at_ dat : Nat} {F : Names} (h : BegOk text data at_ dat F) (x : It) (hx : x ∈ data) : itemE x true = 0 := by
  obtain ⟨i, hi, rfl⟩ := List.mem_iff_getElem.1 hx
  have h1 := h.item (text.length + i) (by rw [List.length_append]; omega)
  rw [List.getElem_append_right (by omega), decide_eq_true (by omega)] at h1
  simpa using h1
/-- what asm.Assemble makes, with the last sizes. -/
def asmR (text data : List It) (at_ dat : Nat) (S : List Int) : (Int × Nat) ⊕ (List UInt8 × List UInt8 × List Lab) :=
  match begM text data at_ dat with
  | .inl x => .inl x
  | .inr F => match bytM (layM text data S at_ dat F) 0 at_ (text.zip S) [] with
    | .inl n => .inl (52, n)
    | .inr l => .inr (l, dataM data, labsM (layM text data S at_ dat F) (text ++ data))
def Fin (text data : List It) (at_ dat : Nat) (S : List Int) : Prop := ∀ F, begM text data at_ dat = .inr F → Final text data at_ dat F S
theorem dataM_append (a b : List It) : dataM (a ++ b) = dataM a ++ dataM b := by
  induction a with
  | nil => rfl
  | cons x r ih => simp [dataM, ih]
theorem labsM_append (F : Names) (a b : List It) : labsM F (a ++ b) = labsM F a ++ labsM F b := by
  induction a with
  | nil => rfl
  | cons x r ih =>
    simp only [List.cons_append, labsM, ih]
    split <;> simp
theorem dataM_take (l : List It) (k : Nat) (hk : k < l.length) : dataM (l.take (k + 1)) = dataM (l.take k) ++ rawM l[k] := by
  rw [List.take_add_one, List.getElem?_eq_getElem hk, dataM_append]
  simp [dataM]
theorem labsM_take (F : Names) (l : List It) (k : Nat) (hk : k < l.length) : labsM F (l.take (k + 1)) = labsM F (l.take k) ++ (if l[k].k = 1 then [(l[k].s, (F l[k].s.data.toList).getD 0)] else []) := by
  rw [List.take_add_one, List.getElem?_eq_getElem hk, labsM_append]
  simp only [Option.toList, labsM]
theorem labsM_len (F : Names) (l : List It) : (labsM F l).length ≤ l.length := by
  induction l with
  | nil => exact Nat.le_refl _
  | cons x r ih =>
    rw [labsM]
    split
    · simp; omega
    · simp; omega
end Go.Pat
namespace Go.Proofs
open Go Go.RowKit Go.Pat
theorem Tryz_sizeCode : (Tryz.prog.info? 53).map (·.size) = some 3 := by kernel_rfl
theorem code_load (b : Nat) (cs : Array Value) (W : World) (hb : W.heap[b]? = some (.cells cs 53 (0, 0))) (hn : cs.size = 3) : (loadVar 53 ⟨b, 0, none⟩).run Tryz.prog W = .ok (.agg cs) W := by
  have := run_loadVar_mid (P := Tryz.prog) W b 0 53 cs.toList _ (fun j v hv => by rw [Nat.zero_add, cell_of_row _ _ j cs _ (0, 0) hb]; simpa using hv) Tryz.underlying53 rfl (by rw [Array.length_toList, hn]; exact Tryz_sizeCode)
  simpa using this
theorem results_code (fn : Func) (hf : fn.results = #[.cell 8 53, .tmp 9, .tmp 10]) (tmps : Array Value) (b : Nat) (cs : Array Value) (W : World) (v3 v4 : Value) (h2 : tmps[8]?.getD undef = .pointer (some ⟨b, 0, none⟩)) (h3 : tmps[9]?.getD undef = v3) (h4 : tmps[10]?.getD undef = v4)
    (hb : W.heap[b]? = some (.cells cs 53 (0, 0))) (hn : cs.size = 3) : (results fn tmps).run Tryz.prog W = .ok (.tuple #[.agg cs, v3, v4]) W := by
  have hl := code_load b cs W hb hn
  unfold results
  rw [hf]
  simp [h2, h3, h4, asAddr, hl]
theorem code_ret (tmps : Array Value) (Wp : World) (b : Nat) (a0 a1 a2 : Value) (hb : Wp.heap[b]? = some (.cells #[a0, a1, a2] 53 (0, 0))) (v0 v1 v2 v3 v4 : Value) (Post : Ending → World → Prop) (h2 : tmps[8]?.getD undef = .pointer (some ⟨b, 0, none⟩)) (h3 : tmps[9]?.getD undef = v3) (h4 : tmps[10]?.getD undef = v4)
    (h : Post (.returned (.tuple #[.agg #[v0, v1, v2], v3, v4])) (((Wp.setCell ⟨b, 0, none⟩ v0).setCell ⟨b, 1, none⟩ v1).setCell ⟨b, 2, none⟩ v2)) :
    bodyPost Tryz.prog Tryz.f16 Post Exit.ret ⟨tmps, []⟩ (((Wp.setCell ⟨b, 0, none⟩ v0).setCell ⟨b, 1, none⟩ v1).setCell ⟨b, 2, none⟩ v2) := by
  have hX := obj_set (obj_set (obj_set hb 0 v0) 1 v1) 2 v2
  have hc : ((#[a0, a1, a2].setIfInBounds 0 v0).setIfInBounds 1 v1).setIfInBounds 2 v2 = #[v0, v1, v2] := by simp
  rw [hc] at hX
  exact bodyPost_ret (results_code _ rfl tmps b _ _ v3 v4 h2 h3 h4 hX rfl) rfl h
theorem step_appL {ops : Array Oper} {o : Oper} {a : Act} {w : World} {K : Act → World → Prop} {Q : Exit → Act → World → Prop} {E : Prop} (hgd : o.guard = none) (s x : Operand)
    (ho : o.op = .call { callee := .builtin .append, args := #[s, x], argTypes := #[51, 51] }) (base : Nat) (v : Value) (l : List Lab) (hs : a.eval s = v) (hown : OwnL w base v l)
    (B : Nat) (A : Option Addr) (n c : Nat) (m : List Lab) (hx : a.eval x = .slice A n c) (hn : m.length = n) (hr : Cs B w A (lcells m)) (hlen : l.length + n ≤ 1000000000) (hbase : base ≤ w.heap.size)
    (h : ∀ v' w', OwnL w' base v' (l ++ m) → (∀ W, Below base W w → Below base W w') → (∀ g, g < w.heap.size → v.ownBlock ≠ some g → w'.heap[g]? = w.heap[g]?) → w.heap.size ≤ w'.heap.size → K (a.put o.dst v') w') :
    if Region.wanted o (yielded ops a.tmps) = true then Oper.wp Tryz.prog o a w K Q else E := by
  refine step_app hgd s x 51 ho Tryz_elLabs base v l.length (lcells l) hs hown B A n c (lcells m) hx (by rw [lcells_length, hn]) hr (lcells_one m) (by simp only [maxLen]; omega) (by omega) hbase ?_
  intro v' w' h1 hg hnil hat
  refine h v' w' ?_ (fun W hW => own_below hown hW hg hbase) (fun g hg1 hg2 => hg.block g hg1 (fun e => hg2 e.symm)) hg.size
  unfold OwnL
  rw [List.length_append, hn, lcells_append]
  exact h1
end Go.Proofs
