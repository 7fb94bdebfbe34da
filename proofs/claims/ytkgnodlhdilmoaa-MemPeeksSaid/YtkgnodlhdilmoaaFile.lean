/- An image's file, as bytes. -/
import Derived.Test.YtkgnodlhdilmoaaHd
import Derived.Deep.RegionLaw
namespace Go.Pat
open Go Go.RowKit

def plAt (ls : List Nat) (k : Nat) : Nat := match ls[k]? with | none => 0 | some m => if m = 0 then 0 else roundN (endT ls k)
theorem plaT_succ (ls : List Nat) (k : Nat) : plaT ls (k + 1) = plaT ls k ++ [plAt ls k] := rfl
theorem plaT_get (ls : List Nat) (n k : Nat) (hk : k < n) : (plaT ls n)[k]? = some (plAt ls k) := by
  induction n with
  | zero => omega
  | succ n ih =>
    rw [plaT_succ]
    by_cases e : k = n
    · subst e; rw [List.getElem?_append_right (by rw [plaT_length]; omega), plaT_length, Nat.sub_self]; rfl
    · rw [List.getElem?_append_left (by rw [plaT_length]; omega)]; exact ih (by omega)
theorem endT_mono (ls : List Nat) {k n : Nat} (hk : k ≤ n) : endT ls k ≤ endT ls n := by
  induction n with
  | zero => obtain rfl : k = 0 := by omega
            exact Nat.le_refl _
  | succ n ih =>
    by_cases e : k = n + 1
    · rw [← e]; exact Nat.le_refl _
    · refine Nat.le_trans (ih (by omega)) ?_
      rw [endT]
      cases ls[n]? with
      | none => exact Nat.le_refl _
      | some m => simp only; split
                  · exact Nat.le_refl _
                  · simp only [roundN]; omega
theorem plAt_fits (ls : List Nat) (k : Nat) {m : Nat} (h : ls[k]? = some m) {n : Nat} (hn : k < n) : plAt ls k + m ≤ endT ls n := by
  refine Nat.le_trans ?_ (endT_mono ls (show k + 1 ≤ n by omega))
  unfold plAt
  rw [endT, h]
  simp only
  split
  · omega
  · exact Nat.le_refl _
theorem plAt_zero (ls : List Nat) (k : Nat) (h : ls[k]? = some 0) : plAt ls k = 0 := by unfold plAt; rw [h]; rfl
theorem endT_head (ls : List Nat) (k : Nat) : 64 + 56 * ls.length ≤ endT ls k := endT_mono ls (Nat.zero_le k)
theorem plAt_head (ls : List Nat) (k : Nat) {m : Nat} (h : ls[k]? = some m) (hm : m ≠ 0) : 64 + 56 * ls.length ≤ plAt ls k := by
  have := endT_head ls k
  unfold plAt
  rw [h]
  simp only [if_neg hm, roundN]
  omega

def dlens (ss : List Sgd) : List Nat := ss.map fun s => s.data.length
theorem dlens_length (ss : List Sgd) : (Go.Pat.dlens ss).length = ss.length := List.length_map ..
def fileT (en : Nat) (ss : List Sgd) : Nat → List UInt8
  | 0 => splice (List.replicate (endT (Go.Pat.dlens ss) ss.length) 0) 0 (headB en ss.length)
  | k + 1 => match ss[k]? with
    | none => fileT en ss k
    | some s => splice (splice (fileT en ss k) (64 + 56 * k) (rowB s.addr s.perm.toNat s.data.length s.size (plAt (Go.Pat.dlens ss) k))) (plAt (Go.Pat.dlens ss) k) s.data
def fileB (en : Nat) (ss : List Sgd) : List UInt8 := fileT en ss ss.length
theorem fileT_length (en : Nat) (ss : List Sgd) (k : Nat) : (fileT en ss k).length = endT (Go.Pat.dlens ss) ss.length := by
  have hh := endT_head (Go.Pat.dlens ss) ss.length
  rw [dlens_length] at hh
  induction k with
  | zero => rw [fileT, length_splice _ _ _ (by rw [headB_length, List.length_replicate]; omega), List.length_replicate]
  | succ k ih =>
    rw [fileT]
    cases hc : ss[k]? with
    | none => exact ih
    | some s =>
      obtain ⟨hk, rfl⟩ := List.getElem?_eq_some_iff.1 hc
      have h2 := plAt_fits (Go.Pat.dlens ss) k (m := ss[k].data.length) (by simp [Go.Pat.dlens, hk]) hk
      simp only
      rw [length_splice _ _ _ (by rw [length_splice _ _ _ (by rw [rowB_length, ih]; omega), ih]; omega), length_splice _ _ _ (by rw [rowB_length, ih]; omega), ih]
theorem splice_left {α : Type} (l m : List α) (a : Nat) (xs : List α) (h : a + xs.length ≤ l.length) : splice (l ++ m) a xs = splice l a xs ++ m := by
  unfold splice
  rw [List.take_append_of_le_length (by omega), List.drop_append_of_le_length (by omega)]
  simp
theorem splice_ge {α : Type} (l : List α) (a : Nat) (xs : List α) : l.length ≤ (splice l a xs).length := by
  simp only [splice, List.length_append, List.length_take, List.length_drop]
  omega
theorem head_chain (n en c : Nat) (hn : 64 ≤ n) :
    splice (splice (splice (splice (splice (splice (splice (splice (splice (List.replicate n (0 : UInt8)) 0 [127, 69, 76, 70, 2, 1, 1]) 16 (le 2 2)) 18 (le 2 243)) 20 (le 4 1)) 24 (le 8 en)) 32 (le 8 64)) 52 (le 2 64)) 54 (le 2 56)) 56 (le 2 c) =
    splice (List.replicate n 0) 0 (headB en c) := by
  obtain ⟨r, rfl⟩ : ∃ r, n = 64 + r := ⟨n - 64, by omega⟩
  rw [← List.replicate_append_replicate]
  rw [splice_left _ _ 0 [127, 69, 76, 70, 2, 1, 1] (by decide)]
  rw [splice_left _ _ 16 (le 2 2) (by rw [le_length]; refine Nat.le_trans ?_ (splice_ge _ _ _); decide)]
  rw [splice_left _ _ 18 (le 2 243) (by rw [le_length]; refine Nat.le_trans ?_ (splice_ge _ _ _); refine Nat.le_trans ?_ (splice_ge _ _ _); decide)]
  rw [splice_left _ _ 20 (le 4 1) (by rw [le_length]; refine Nat.le_trans ?_ (splice_ge _ _ _); refine Nat.le_trans ?_ (splice_ge _ _ _); refine Nat.le_trans ?_ (splice_ge _ _ _); decide)]
  rw [splice_left _ _ 24 (le 8 en) (by rw [le_length]; refine Nat.le_trans ?_ (splice_ge _ _ _); refine Nat.le_trans ?_ (splice_ge _ _ _); refine Nat.le_trans ?_ (splice_ge _ _ _); refine Nat.le_trans ?_ (splice_ge _ _ _); decide)]
  rw [splice_left _ _ 32 (le 8 64) (by rw [le_length]; refine Nat.le_trans ?_ (splice_ge _ _ _); refine Nat.le_trans ?_ (splice_ge _ _ _); refine Nat.le_trans ?_ (splice_ge _ _ _); refine Nat.le_trans ?_ (splice_ge _ _ _); refine Nat.le_trans ?_ (splice_ge _ _ _); decide)]
  rw [splice_left _ _ 52 (le 2 64) (by rw [le_length]; refine Nat.le_trans ?_ (splice_ge _ _ _); refine Nat.le_trans ?_ (splice_ge _ _ _); refine Nat.le_trans ?_ (splice_ge _ _ _); refine Nat.le_trans ?_ (splice_ge _ _ _); refine Nat.le_trans ?_ (splice_ge _ _ _); refine Nat.le_trans ?_ (splice_ge _ _ _); decide)]
  rw [splice_left _ _ 54 (le 2 56) (by rw [le_length]; refine Nat.le_trans ?_ (splice_ge _ _ _); refine Nat.le_trans ?_ (splice_ge _ _ _); refine Nat.le_trans ?_ (splice_ge _ _ _); refine Nat.le_trans ?_ (splice_ge _ _ _); refine Nat.le_trans ?_ (splice_ge _ _ _); refine Nat.le_trans ?_ (splice_ge _ _ _); refine Nat.le_trans ?_ (splice_ge _ _ _); decide)]
  rw [splice_left _ _ 56 (le 2 c) (by rw [le_length]; refine Nat.le_trans ?_ (splice_ge _ _ _); refine Nat.le_trans ?_ (splice_ge _ _ _); refine Nat.le_trans ?_ (splice_ge _ _ _); refine Nat.le_trans ?_ (splice_ge _ _ _); refine Nat.le_trans ?_ (splice_ge _ _ _); refine Nat.le_trans ?_ (splice_ge _ _ _); refine Nat.le_trans ?_ (splice_ge _ _ _); refine Nat.le_trans ?_ (splice_ge _ _ _); decide)]
  rw [splice_left _ _ 0 (headB en c) (by rw [headB_length]; decide)]
  rfl
theorem row_chain (l : List UInt8) (a addr perm len size at_ : Nat) (h : a + 56 ≤ l.length) :
    splice (splice (splice (splice (splice (splice (splice (splice l a (le 4 1)) (a + 4) (le 4 perm)) (a + 8) (le 8 at_)) (a + 16) (le 8 addr)) (a + 24) (le 8 addr)) (a + 32) (le 8 len)) (a + 40) (le 8 size)) (a + 48) (le 8 4096) =
    splice l a (rowB addr perm len size at_) := by
  have st : ∀ (xs ys : List UInt8) (k : Nat), xs.length = k → k + ys.length ≤ 56 → splice (splice l a xs) (a + k) ys = splice l a (xs ++ ys) := by
    intro xs ys k hk h2
    subst hk
    exact splice_splice l a xs ys (by omega)
  unfold rowB
  rw [st _ _ 4 (by simp [le_length]) (by simp [le_length]), st _ _ 8 (by simp [le_length]) (by simp [le_length]), st _ _ 16 (by simp [le_length]) (by simp [le_length]), st _ _ 24 (by simp [le_length]) (by simp [le_length]),
    st _ _ 32 (by simp [le_length]) (by simp [le_length]), st _ _ 40 (by simp [le_length]) (by simp [le_length]), st _ _ 48 (by simp [le_length]) (by simp [le_length])]
end Go.Pat
namespace Go.Proofs
open Go Go.RowKit Go.Pat

theorem Try_infoU8 : (Try.prog.info? 5).map (fun i => (i.zero, i.size, i.bytes)) = some (some (.int .u8 0), 1, 1) := by kernel_rfl
theorem Try_sizeU8 : (Try.prog.info? 5).map (·.size) = some 1 := by kernel_rfl
theorem made_bytes (n : Nat) : madeCells #[.int .u8 0] n = (bcells (List.replicate n 0)).toArray := by
  apply Array.ext
  · rw [size_madeCells]; simp [bcells]
  · intro i h1 h2
    simp [madeCells, bcells, bval, Nat.mod_one]
theorem run_makeB (w : World) (k : IntKind) (n : Nat) (hn : n ≤ 281474976710656) : (Instr.makeSlice 35 (.int k (n : Int)) (.int k (n : Int))).run Try.prog w = .ok (.slice (some ⟨w.heap.size, 0, none⟩) n n) (w.alloc (.cells (bcells (List.replicate n 0)).toArray 5)) := by
  obtain ⟨i, hi, hz0, hz1, hz2⟩ := info_parts Try_infoU8
  have h := run_make (P := Try.prog) w 35 5 i _ Try.underlying35 hi hz0 k k (n : Int) (n : Int) (by omega) (by omega) (by rw [hz2]; omega) (by omega)
  rw [hz1, Nat.mul_one, Int.toNat_natCast] at h
  rw [← made_bytes]
  exact h
theorem buf_made (w : World) (l : List UInt8) : Buf (w.alloc (.cells (bcells l).toArray 5)) w.heap.size l := heap_alloc_new w _

/-- what is told of a number as an argument. -/
theorem eputI_int (w : World) (g n len cap at_ v : Nat) (z y : Int) (l : List UInt8) (hz : z = (at_ : Int)) (hy : y = (v : Int)) (hB : Buf w g l) (hl : l.length = len) (hat : at_ + n ≤ len) (hlen : len ≤ 140737488355328) (hn : n ≤ 8) (hv : v ≤ 9223372036854775807) :
    Calls Try.prog 88 #[.slice (some ⟨g, 0, none⟩) len cap, .int .i64 z, .int .i64 n, .int .i64 y] w fun e w' => e = .returned (.tuple #[]) ∧ Buf w' g (splice l at_ (le n v)) ∧ KeptBut (fun b => b = g) w w' := by
  subst hz hy
  exact eputI_any w g n len cap at_ v l hB hl hat hlen hn hv
theorem eputU_int (w : World) (g n len cap at_ v : Nat) (z : Int) (l : List UInt8) (hz : z = (at_ : Int)) (hB : Buf w g l) (hl : l.length = len) (hat : at_ + n ≤ len) (hlen : len ≤ 140737488355328) (hn : n ≤ 8) (hv : v ≤ 18446744073709551615) :
    Calls Try.prog 89 #[.slice (some ⟨g, 0, none⟩) len cap, .int .i64 z, .int .i64 n, .int .u64 v] w fun e w' => e = .returned (.tuple #[]) ∧ Buf w' g (splice l at_ (le n v)) ∧ KeptBut (fun b => b = g) w w' := by
  subst hz
  exact eputU_any w g n len cap at_ v l hB hl hat hlen hn hv

theorem wpList_makeB {ops : Array Oper} {rest : List Oper} {o : Oper} {a : Act} {Q : Exit → Act → World → Prop} (w : World) (hgd : o.guard = none) (x y : Operand) (ho : o.op = Op.makeSlice 35 x y) (k : IntKind) (n : Nat)
    (hx : a.eval x = .int k (n : Int)) (hy : a.eval y = .int k (n : Int)) (hn : n ≤ 281474976710656)
    (h : ∀ w', Buf w' w.heap.size (List.replicate n 0) → Below w.heap.size w w' → w'.heap.size = w.heap.size + 1 → wpList Try.prog ops Q rest (a.put o.dst (.slice (some ⟨w.heap.size, 0, none⟩) n n)) w') :
    wpList Try.prog ops Q (o :: rest) a w := by
  refine wpList_plain hgd fun K hK => ?_
  have hrun := run_makeB w k n hn
  unfold Oper.wp
  simp only [execOp, ho, Sem.run_bind, hx, hy, hrun, Result.andThen]
  exact hK _ _ (h _ (buf_made w _) ((Below.refl _ _).alloc (Nat.le_refl _) _) (by simp))
theorem run_copyB (w : World) (ty : TypeId) (g off dLen dCap : Nat) (l : List UInt8) (hB : Buf w g l) (A : Option Addr) (sLen sCap B : Nat) (xs : List UInt8) (hr : Bs B w A xs) (hx : xs.length = sLen) (hle : sLen ≤ dLen) (hfit : off + sLen ≤ l.length) :
    ∃ w', (Builtin.copy_ #[35, 35] ty #[.slice (some ⟨g, off, none⟩) dLen dCap, .slice A sLen sCap]).run Try.prog w = .ok (goInt sLen) w' ∧ Buf w' g (splice l off xs) ∧ KeptBut (fun b => b = g) w w' := by
  by_cases h0 : sLen = 0
  · subst h0
    obtain rfl : xs = [] := List.eq_nil_of_length_eq_zero hx
    refine ⟨w, run_copy_none (P := Try.prog) w 35 35 ty 5 _ A dLen dCap 0 sCap Try.underlying35 Try_sizeU8 (by simp), ?_, .refl _ _⟩
    rw [splice_nil]; exact hB
  · obtain ⟨b, o, rfl, _⟩ := hr.form (by intro h; have := congrArg List.length h; rw [bcells_length] at this; simp at this; rw [this] at hx; simp at hx; omega)
    have hrun := run_copy_row (P := Try.prog) w 35 35 ty 5 g off dLen dCap ⟨b, o, none⟩ sLen sCap (bcells l).toArray 5 (bcells xs) Try.underlying35 Try_sizeU8 hB (by rw [bcells_length, hx]; exact (Nat.min_eq_left hle).symm) (hr.news rfl) (by rw [bcells_length, List.size_toArray, bcells_length]; omega) (bcells_one xs)
    rw [bcells_length, hx] at hrun
    refine ⟨_, hrun, ?_, rfl, rfl, rfl, by simp [World.setRow], fun k _ hk => setRow_other w g k _ hk⟩
    have hs := setRow_heap w g (bcells l).toArray (((bcells l).toArray.toList.take off ++ bcells xs ++ (bcells l).toArray.toList.drop (off + sLen)).toArray) _ _ hB
    unfold Buf
    rw [hs, ← bcells_splice]
    simp [splice, bcells_length, hx]
theorem wpList_copyB {ops : Array Oper} {rest : List Oper} {o : Oper} {a : Act} {Q : Exit → Act → World → Prop} (w : World) (hgd : o.guard = none) (d s : Operand)
    (ho : o.op = .call { callee := .builtin .copy, args := #[d, s], argTypes := #[35, 35] }) (g off dLen dCap : Nat) (hd : a.eval d = .slice (some ⟨g, off, none⟩) dLen dCap) (l : List UInt8) (hB : Buf w g l)
    (A : Option Addr) (sLen sCap B : Nat) (hs : a.eval s = .slice A sLen sCap) (xs : List UInt8) (hr : Bs B w A xs) (hx : xs.length = sLen) (hle : sLen ≤ dLen) (hfit : off + sLen ≤ l.length)
    (h : ∀ w', Buf w' g (splice l off xs) → KeptBut (fun b => b = g) w w' → wpList Try.prog ops Q rest (a.put o.dst (goInt sLen)) w') :
    wpList Try.prog ops Q (o :: rest) a w := by
  refine wpList_plain hgd fun K hK => ?_
  obtain ⟨w', hrun, h1, h2⟩ := run_copyB w o.type g off dLen dCap l hB A sLen sCap B xs hr hx hle hfit
  unfold Oper.wp
  simp [execOp, ho, resolve, invoke, builtin, hd, hs, hrun, Result.andThen]
  exact hK _ _ (h w' h1 h2)
theorem step_copyB {ops : Array Oper} {o : Oper} {a : Act} {w : World} {K : Act → World → Prop} {Q : Exit → Act → World → Prop} {E : Prop} (hgd : o.guard = none) (d s : Operand)
    (ho : o.op = .call { callee := .builtin .copy, args := #[d, s], argTypes := #[35, 35] }) (g off dLen dCap : Nat) (hd : a.eval d = .slice (some ⟨g, off, none⟩) dLen dCap) (l : List UInt8) (hB : Buf w g l)
    (A : Option Addr) (sLen sCap B : Nat) (hs : a.eval s = .slice A sLen sCap) (xs : List UInt8) (hr : Bs B w A xs) (hx : xs.length = sLen) (hle : sLen ≤ dLen) (hfit : off + sLen ≤ l.length)
    (h : ∀ w', Buf w' g (splice l off xs) → KeptBut (fun b => b = g) w w' → K (a.put o.dst (goInt sLen)) w') :
    if Region.wanted o (yielded ops a.tmps) = true then Oper.wp Try.prog o a w K Q else E := by
  have hw : Region.wanted o (yielded ops a.tmps) = true := by simp [Region.wanted, hgd]
  rw [if_pos hw]
  obtain ⟨w', hrun, h1, h2⟩ := run_copyB w o.type g off dLen dCap l hB A sLen sCap B xs hr hx hle hfit
  unfold Oper.wp
  simp [execOp, ho, resolve, invoke, builtin, hd, hs, hrun, Result.andThen]
  exact h w' h1 h2

set_option maxRecDepth 20000 in
set_option maxHeartbeats 8000000 in
theorem efile_any (w : World) (A : Option Addr) (cap en : Nat) (ss : List Sg) (hP : SgsAt w.heap.size w A ss) (hn8 : ss.length ≤ 8) (hen : en < 18446744073709551616) (hsm : ∀ s ∈ ss, s.data.length ≤ 16777216 ∧ 0 ≤ s.perm ∧ s.perm ≤ 7) :
    Calls Try.prog 62 #[.agg #[.int .u64 en, .slice A ss.length cap]] w fun e w' => ∃ g n, e = .returned (.slice (some ⟨g, 0, none⟩) n n) ∧ Buf w' g (fileB en (ss.map Sg.d)) ∧ w.heap.size ≤ g ∧ n = (fileB en (ss.map Sg.d)).length ∧ n ≤ 140737488351232 ∧ Below w.heap.size w w' := by
  have hb0 : Below w.heap.size w (w.alloc (.cells #[.int .u64 en, .slice A ss.length cap] 38)) := (Below.refl _ _).alloc (Nat.le_refl _) _
  have hl : Go.Pat.dlens (ss.map Sg.d) = ss.map fun s => s.data.length := by simp [Go.Pat.dlens, Sg.d]
  have hll : (ss.map fun s => s.data.length).length = ss.length := List.length_map ..
  obtain ⟨n, hN⟩ : ∃ n, n = endT (ss.map fun s => s.data.length) ss.length := ⟨_, rfl⟩
  have hn1 : n ≤ 134250496 + 512 := by
    have h1 := endT_leM (ls := ss.map fun s => s.data.length) 16781312 (by decide) (by intro m hm; obtain ⟨s, hs, rfl⟩ := List.mem_map.1 hm; have := (hsm s hs).1; omega) (by omega) ss.length
    have h2 : ss.length * 16781312 ≤ 8 * 16781312 := Nat.mul_le_mul_right _ hn8
    rw [hN]; omega
  have hn64 : 64 + 56 * ss.length ≤ n := by rw [hN, ← hll]; rw [hll]; have := endT_head (ss.map fun s => s.data.length) ss.length; rw [hll] at this; exact this
  have HN := Lib.hid hN
  clear hN
  go_enter Try.func62, Try.ntmps62
  go_wp2_with fail
  refine Calls.mono (eplaces_any _ A cap en ss ((hP.below hb0).mono hb0.size) hn8) ?_
  rintro e w1 ⟨v, rfl, hv, hB1⟩
  rw [← HN.out]
  rw [World.size_alloc] at hB1
  obtain ⟨c0, c1⟩ := two_cells1 _ _ _ _ hB1
  go_wp2_with (at_make; refine wpList_makeB _ rfl _ _ rfl .i64 n rfl rfl (by omega) ?hm)
  case hm =>
    intro w2 hb2 hB2 hs2
    obtain ⟨g, hg⟩ : ∃ g, g = w1.heap.size := ⟨_, rfl⟩
    have hg2 : w.heap.size + 1 ≤ g := by have := hB1.size; rw [World.size_alloc] at this; omega
    rw [← hg] at hb2 hB2 hs2
    obtain ⟨A2, c2, rfl, hv2⟩ := hv.form
    rw [plaT_length, ← hg] at *
    have hpre := hB1.trans (hB2.mono hg2)
    go_wp2_with (with_reducible refine wpList_copyB (o := ⟨some 18, _, _, _, _, _⟩) _ ?q1 (.tmp 16) (.tmp 17) ?q2 g 0 n n ?q3 (List.replicate n 0) ?q4 (some ⟨w2.heap.size, 0, none⟩) 7 7 (w2.heap.size + 1) ?q5 [127, 69, 76, 70, 2, 1, 1] ?q6 ?q7 ?q8 ?q9 ?hk)
    case q1 => rfl
    case q2 => rfl
    case q4 => exact hb2.below ((Below.refl _ _).alloc (Nat.le_refl _) _)
    case q6 =>
      have := (buf_made w2 [127, 69, 76, 70, 2, 1, 1]).bs (Nat.lt_succ_self _)
      rw [hs2] at this
      exact this
    case q8 => omega
    case q9 => omega
    intro w3 hq0 hk0
    have hK0 : KeptBut (fun b => b = g) w2 w3 := (KeptBut.of_below ((Below.refl _ _).alloc (Nat.le_refl _) _)).trans hk0
    clear hk0
    have hl0 : (splice (List.replicate n (0 : UInt8)) 0 [127, 69, 76, 70, 2, 1, 1]).length = n := by rw [length_splice _ _ _ (by rw [List.length_replicate]; show 0 + 7 ≤ n; omega), List.length_replicate]
    go_wp2_with fail
    refine Calls.mono (eputI_any _ g 2 n n 16 2 _ hq0 hl0 (by omega) (by omega) (by decide) (by first | decide | omega)) ?_
    rintro e w' ⟨rfl, hq1, hk1⟩
    have hK1 := hK0.trans hk1
    have hl1 : (splice (splice (List.replicate n (0 : UInt8)) 0 [127, 69, 76, 70, 2, 1, 1]) 16 (le 2 2)).length = n := by rw [length_splice _ _ _ (by rw [le_length, hl0]; omega), hl0]
    clear hk1 hq0 hK0 hl0
    go_wp2_with fail
    refine Calls.mono (eputI_any _ g 2 n n 18 243 _ hq1 hl1 (by omega) (by omega) (by decide) (by first | decide | omega)) ?_
    rintro e w' ⟨rfl, hq2, hk2⟩
    have hK2 := hK1.trans hk2
    have hl2 : (splice (splice (splice (List.replicate n (0 : UInt8)) 0 [127, 69, 76, 70, 2, 1, 1]) 16 (le 2 2)) 18 (le 2 243)).length = n := by rw [length_splice _ _ _ (by rw [le_length, hl1]; omega), hl1]
    clear hk2 hq1 hK1 hl1
    go_wp2_with fail
    refine Calls.mono (eputI_any _ g 4 n n 20 1 _ hq2 hl2 (by omega) (by omega) (by decide) (by first | decide | omega)) ?_
    rintro e w' ⟨rfl, hq3, hk3⟩
    have hK3 := hK2.trans hk3
    have hl3 : (splice (splice (splice (splice (List.replicate n (0 : UInt8)) 0 [127, 69, 76, 70, 2, 1, 1]) 16 (le 2 2)) 18 (le 2 243)) 20 (le 4 1)).length = n := by rw [length_splice _ _ _ (by rw [le_length, hl2]; omega), hl2]
    clear hk3 hq2 hK2 hl2
    obtain ⟨c0, c1⟩ := two_cells1 _ _ _ _ (hpre.trans (hK3.below (B := w.heap.size + 1) (by omega) (by rintro b rfl; exact hg2)))
    go_wp2_with fail
    refine Calls.mono (eputU_any _ g 8 n n 24 en _ hq3 hl3 (by omega) (by omega) (by decide) (by first | decide | omega)) ?_
    rintro e w' ⟨rfl, hq4, hk4⟩
    have hK4 := hK3.trans hk4
    have hl4 : (splice (splice (splice (splice (splice (List.replicate n (0 : UInt8)) 0 [127, 69, 76, 70, 2, 1, 1]) 16 (le 2 2)) 18 (le 2 243)) 20 (le 4 1)) 24 (le 8 en)).length = n := by rw [length_splice _ _ _ (by rw [le_length, hl3]; omega), hl3]
    clear hk4 hq3 hK3 hl3
    clear c0 c1
    go_wp2_with fail
    refine Calls.mono (eputI_any _ g 8 n n 32 64 _ hq4 hl4 (by omega) (by omega) (by decide) (by first | decide | omega)) ?_
    rintro e w' ⟨rfl, hq5, hk5⟩
    have hK5 := hK4.trans hk5
    have hl5 : (splice (splice (splice (splice (splice (splice (List.replicate n (0 : UInt8)) 0 [127, 69, 76, 70, 2, 1, 1]) 16 (le 2 2)) 18 (le 2 243)) 20 (le 4 1)) 24 (le 8 en)) 32 (le 8 64)).length = n := by rw [length_splice _ _ _ (by rw [le_length, hl4]; omega), hl4]
    clear hk5 hq4 hK4 hl4
    go_wp2_with fail
    refine Calls.mono (eputI_any _ g 2 n n 52 64 _ hq5 hl5 (by omega) (by omega) (by decide) (by first | decide | omega)) ?_
    rintro e w' ⟨rfl, hq6, hk6⟩
    have hK6 := hK5.trans hk6
    have hl6 : (splice (splice (splice (splice (splice (splice (splice (List.replicate n (0 : UInt8)) 0 [127, 69, 76, 70, 2, 1, 1]) 16 (le 2 2)) 18 (le 2 243)) 20 (le 4 1)) 24 (le 8 en)) 32 (le 8 64)) 52 (le 2 64)).length = n := by rw [length_splice _ _ _ (by rw [le_length, hl5]; omega), hl5]
    clear hk6 hq5 hK5 hl5
    go_wp2_with fail
    refine Calls.mono (eputI_any _ g 2 n n 54 56 _ hq6 hl6 (by omega) (by omega) (by decide) (by first | decide | omega)) ?_
    rintro e w' ⟨rfl, hq7, hk7⟩
    have hK7 := hK6.trans hk7
    have hl7 : (splice (splice (splice (splice (splice (splice (splice (splice (List.replicate n (0 : UInt8)) 0 [127, 69, 76, 70, 2, 1, 1]) 16 (le 2 2)) 18 (le 2 243)) 20 (le 4 1)) 24 (le 8 en)) 32 (le 8 64)) 52 (le 2 64)) 54 (le 2 56)).length = n := by rw [length_splice _ _ _ (by rw [le_length, hl6]; omega), hl6]
    clear hk7 hq6 hK6 hl6
    obtain ⟨c0, c1⟩ := two_cells1 _ _ _ _ (hpre.trans (hK7.below (B := w.heap.size + 1) (by omega) (by rintro b rfl; exact hg2)))
    go_wp2_with fail
    refine Calls.mono (eputH_any _ g 2 n n 56 ss.length _ hq7 hl7 (by omega) (by omega) (by decide) (by first | decide | omega)) ?_
    rintro e w' ⟨rfl, hq8, hk8⟩
    have hK8 := hK7.trans hk8
    have hl8 : (splice (splice (splice (splice (splice (splice (splice (splice (splice (List.replicate n (0 : UInt8)) 0 [127, 69, 76, 70, 2, 1, 1]) 16 (le 2 2)) 18 (le 2 243)) 20 (le 4 1)) 24 (le 8 en)) 32 (le 8 64)) 52 (le 2 64)) 54 (le 2 56)) 56 (le 2 ss.length)).length = n := by rw [length_splice _ _ _ (by rw [le_length, hl7]; omega), hl7]
    clear hk8 hq7 hK7 hl7
    clear c0 c1
    rw [head_chain n en ss.length (by omega)] at hq8
    have hf0 : fileT en (ss.map Sg.d) 0 = splice (List.replicate n 0) 0 (headB en ss.length) := by rw [fileT, hl, List.length_map, HN.out]
    rw [← hf0] at hq8
    clear hl8 hf0
    obtain ⟨c0, c1⟩ := two_cells1 _ _ _ _ (hpre.trans (hK8.below (B := w.heap.size + 1) (by omega) (by rintro b rfl; exact hg2)))
    have hG : Below g w2 w' := hK8.below (by omega) (by rintro b rfl; exact Nat.le_refl _)
    clear hK8
    go_wp2_with fail
    clear c0 c1
    go_loopw [44] (fun i wr => ∃ j : Nat, j ≤ ss.length ∧ i = .int .i64 j ∧ Buf wr g (fileT en (ss.map Sg.d) j) ∧ Below g w2 wr) (fun i _ => ss.length - (intOf i).toNat)
    case atStart => exact ⟨0, by omega, rfl, hq8, hG⟩
    case round =>
      clear hq8 hG
      obtain ⟨j, hj, rfl, hbj, hB⟩ := hrel
      have hbs : g + 1 ≤ wr.heap.size := by have := hB.size; omega
      have hPj := hP.below (hb0.trans ((hpre.trans (hB.mono hg2)).mono (Nat.le_succ _)))
      have hlj : (fileT en (ss.map Sg.d) j).length = n := by rw [fileT_length, hl, List.length_map, HN.out]
      by_cases hlt : j < ss.length
      · have hd3 : decide ((j : Int) < (ss.length : Int)) = true := by simp; omega
        obtain ⟨b, o, rfl, hbw, q0, q1, q2, q3⟩ := hPj.cells j hlt
        have hsmj := hPj.small ss[j] (List.getElem_mem hlt)
        have hperm := hsm ss[j] (List.getElem_mem hlt)
        have hby := hPj.bytes ss[j] (List.getElem_mem hlt)
        have hget : (ss.map Sg.d)[j]? = some (ss[j].d) := by simp [hlt]
        have hgl : (ss.map fun s => s.data.length)[j]? = some ss[j].data.length := by simp [hlt]
        have hfit := plAt_fits (ss.map fun s => s.data.length) j hgl hlt
        rw [← HN.out] at hfit
        have hple : (plaT (ss.map fun s => s.data.length) ss.length)[j]'(by rw [plaT_length]; exact hlt) = plAt (ss.map fun s => s.data.length) j := by
          have := plaT_get (ss.map fun s => s.data.length) ss.length j hlt
          rw [List.getElem?_eq_getElem (by rw [plaT_length]; exact hlt)] at this
          exact Option.some.inj this
        obtain ⟨b2, o2, rfl, hb2w, hpc⟩ := Cs.at_i (hv2.below (hB2.trans hB)) j (by rw [plaT_length]; exact hlt)
        rw [hple] at hpc
        obtain ⟨pl, hpl⟩ : ∃ pl, pl = plAt (ss.map fun s => s.data.length) j := ⟨_, rfl⟩
        rw [← hpl] at hpc hfit
        have hrow := row_chain (fileT en (ss.map Sg.d) j) (64 + 56 * j) ss[j].addr ss[j].perm.toNat ss[j].data.length ss[j].size pl (by omega)
        have hst : fileT en (ss.map Sg.d) (j + 1) = splice (splice (fileT en (ss.map Sg.d) j) (64 + 56 * j) (rowB ss[j].addr ss[j].perm.toNat ss[j].data.length ss[j].size pl)) pl ss[j].data := by rw [fileT, hget, hl, hpl]; rfl
        have HS := Lib.hid (And.intro hrow hst)
        have hne : ¬ n = pl := by
          by_cases hz : ss[j].data.length = 0
          · rw [hz] at hgl; have := plAt_zero _ _ hgl; omega
          · omega
        clear hrow hst hpl hple hgl hget
        have hpy : ss[j].perm = ((ss[j].perm.toNat : Nat) : Int) := (Int.toNat_of_nonneg hperm.2.1).symm
        obtain ⟨pm, hpm⟩ : ∃ pm, pm = ss[j].perm.toNat := ⟨_, rfl⟩
        rw [← hpm] at hpy
        have hpm7 : pm ≤ 7 := by omega
        have HPM := Lib.hid hpm
        have HPY := Lib.hid hpy
        clear hpm hpy
        have hk0 : KeptBut (fun b => b = g) wr (wr.alloc (.cells #[.int .u64 ss[j].addr, .int .i64 ss[j].perm, .slice ss[j].A ss[j].data.length ss[j].cap, .int .u64 ss[j].size] 73)) := .of_below ((Below.refl _ _).alloc (Nat.le_refl _) _)
        have hq0 : Buf (wr.alloc (.cells #[.int .u64 ss[j].addr, .int .i64 ss[j].perm, .slice ss[j].A ss[j].data.length ss[j].cap, .int .u64 ss[j].size] 73)) g (fileT en (ss.map Sg.d) j) := hbj.below ((Below.refl _ _).alloc (Nat.le_refl _) _)
        obtain ⟨d0, d1, d2, d3⟩ := four_cells1 wr _ _ _ _ 73 (Below.refl (wr.heap.size + 1) (wr.alloc (.cells #[.int .u64 ss[j].addr, .int .i64 ss[j].perm, .slice ss[j].A ss[j].data.length ss[j].cap, .int .u64 ss[j].size] 73)))
        have hpcl : b2 < (wr.alloc (.cells #[.int .u64 ss[j].addr, .int .i64 ss[j].perm, .slice ss[j].A ss[j].data.length ss[j].cap, .int .u64 ss[j].size] 73)).heap.size := by rw [World.size_alloc]; omega
        have hpc0 : (wr.alloc (.cells #[.int .u64 ss[j].addr, .int .i64 ss[j].perm, .slice ss[j].A ss[j].data.length ss[j].cap, .int .u64 ss[j].size] 73)).cell? ⟨b2, o2 + j, none⟩ = some (.int .i64 (pl : Int)) := (World.cell?_alloc_lt _ _ _ (by show b2 < wr.heap.size; omega)).trans hpc
        clear hpc
        have hq0s : wr.heap.size < (wr.alloc (.cells #[.int .u64 ss[j].addr, .int .i64 ss[j].perm, .slice ss[j].A ss[j].data.length ss[j].cap, .int .u64 ss[j].size] 73)).heap.size := by rw [World.size_alloc]; omega
        have hz := Lib.hid (show (64 + 56 * (j : Int)) = ((64 + 56 * j : Nat) : Int) by omega)
        go_wp2_with fail
        refine Calls.mono (eputI_int _ g 4 n n (64 + 56 * j) 1 (64 + 56 * (j : Int)) 1 _ hz.out rfl hq0 (by first | exact hlj | exact hl0) (by omega) (by omega) (by decide) (by omega)) ?_
        rintro e x1 ⟨rfl, hq1, hk⟩
        have hk1 := hk0.trans hk
        have e0 : wr.heap.size ≠ g := by omega
        have d0 := (hk.cell (p := ⟨wr.heap.size, 0, none⟩) hq0s e0).trans d0
        have d1 := (hk.cell (p := ⟨wr.heap.size, 1, none⟩) hq0s e0).trans d1
        have d2 := (hk.cell (p := ⟨wr.heap.size, 2, none⟩) hq0s e0).trans d2
        have d3 := (hk.cell (p := ⟨wr.heap.size, 3, none⟩) hq0s e0).trans d3
        have hpc0 := (hk.cell (p := ⟨b2, o2 + j, none⟩) hpcl (Nat.ne_of_lt hb2w)).trans hpc0
        have hpcl := Nat.lt_of_lt_of_le hpcl hk.size
        have hq1s := Nat.lt_of_lt_of_le hq0s hk.size
        have hl1 : (splice (fileT en (ss.map Sg.d) j) (64 + 56 * j) (le 4 1)).length = n := by rw [length_splice _ _ _ (by rw [le_length]; first | (rw [hlj]; omega) | (rw [hl0]; omega))]; first | exact hlj | exact hl0
        clear hz hk hq0
        have hz := Lib.hid (show (64 + 56 * (j : Int) + 4) = ((64 + 56 * j + 4 : Nat) : Int) by omega)
        go_wp2_with fail
        refine Calls.mono (eputI_int _ g 4 n n (64 + 56 * j + 4) pm (64 + 56 * (j : Int) + 4) ss[j].perm _ hz.out HPY.out hq1 (by first | exact hlj | exact hl1) (by omega) (by omega) (by decide) (by omega)) ?_
        rintro e x2 ⟨rfl, hq2, hk⟩
        have hk2 := hk1.trans hk
        have e0 : wr.heap.size ≠ g := by omega
        have d0 := (hk.cell (p := ⟨wr.heap.size, 0, none⟩) hq1s e0).trans d0
        have d1 := (hk.cell (p := ⟨wr.heap.size, 1, none⟩) hq1s e0).trans d1
        have d2 := (hk.cell (p := ⟨wr.heap.size, 2, none⟩) hq1s e0).trans d2
        have d3 := (hk.cell (p := ⟨wr.heap.size, 3, none⟩) hq1s e0).trans d3
        have hpc0 := (hk.cell (p := ⟨b2, o2 + j, none⟩) hpcl (Nat.ne_of_lt hb2w)).trans hpc0
        have hpcl := Nat.lt_of_lt_of_le hpcl hk.size
        have hq2s := Nat.lt_of_lt_of_le hq1s hk.size
        have hl2 : (splice (splice (fileT en (ss.map Sg.d) j) (64 + 56 * j) (le 4 1)) (64 + 56 * j + 4) (le 4 pm)).length = n := by rw [length_splice _ _ _ (by rw [le_length]; first | (rw [hlj]; omega) | (rw [hl1]; omega))]; first | exact hlj | exact hl1
        clear hz hk hq1
        have hz := Lib.hid (show (64 + 56 * (j : Int) + 8) = ((64 + 56 * j + 8 : Nat) : Int) by omega)
        go_wp2_with fail
        refine Calls.mono (eputI_int _ g 8 n n (64 + 56 * j + 8) pl (64 + 56 * (j : Int) + 8) (pl : Int) _ hz.out rfl hq2 (by first | exact hlj | exact hl2) (by omega) (by omega) (by decide) (by omega)) ?_
        rintro e x3 ⟨rfl, hq3, hk⟩
        have hk3 := hk2.trans hk
        have e0 : wr.heap.size ≠ g := by omega
        have d0 := (hk.cell (p := ⟨wr.heap.size, 0, none⟩) hq2s e0).trans d0
        have d1 := (hk.cell (p := ⟨wr.heap.size, 1, none⟩) hq2s e0).trans d1
        have d2 := (hk.cell (p := ⟨wr.heap.size, 2, none⟩) hq2s e0).trans d2
        have d3 := (hk.cell (p := ⟨wr.heap.size, 3, none⟩) hq2s e0).trans d3
        have hpc0 := (hk.cell (p := ⟨b2, o2 + j, none⟩) hpcl (Nat.ne_of_lt hb2w)).trans hpc0
        have hpcl := Nat.lt_of_lt_of_le hpcl hk.size
        have hq3s := Nat.lt_of_lt_of_le hq2s hk.size
        have hl3 : (splice (splice (splice (fileT en (ss.map Sg.d) j) (64 + 56 * j) (le 4 1)) (64 + 56 * j + 4) (le 4 pm)) (64 + 56 * j + 8) (le 8 pl)).length = n := by rw [length_splice _ _ _ (by rw [le_length]; first | (rw [hlj]; omega) | (rw [hl2]; omega))]; first | exact hlj | exact hl2
        clear hz hk hq2
        have hz := Lib.hid (show (64 + 56 * (j : Int) + 16) = ((64 + 56 * j + 16 : Nat) : Int) by omega)
        go_wp2_with fail
        refine Calls.mono (eputU_int _ g 8 n n (64 + 56 * j + 16) ss[j].addr (64 + 56 * (j : Int) + 16) _ hz.out hq3 (by first | exact hlj | exact hl3) (by omega) (by omega) (by decide) (by omega)) ?_
        rintro e x4 ⟨rfl, hq4, hk⟩
        have hk4 := hk3.trans hk
        have e0 : wr.heap.size ≠ g := by omega
        have d0 := (hk.cell (p := ⟨wr.heap.size, 0, none⟩) hq3s e0).trans d0
        have d1 := (hk.cell (p := ⟨wr.heap.size, 1, none⟩) hq3s e0).trans d1
        have d2 := (hk.cell (p := ⟨wr.heap.size, 2, none⟩) hq3s e0).trans d2
        have d3 := (hk.cell (p := ⟨wr.heap.size, 3, none⟩) hq3s e0).trans d3
        have hpc0 := (hk.cell (p := ⟨b2, o2 + j, none⟩) hpcl (Nat.ne_of_lt hb2w)).trans hpc0
        have hpcl := Nat.lt_of_lt_of_le hpcl hk.size
        have hq4s := Nat.lt_of_lt_of_le hq3s hk.size
        have hl4 : (splice (splice (splice (splice (fileT en (ss.map Sg.d) j) (64 + 56 * j) (le 4 1)) (64 + 56 * j + 4) (le 4 pm)) (64 + 56 * j + 8) (le 8 pl)) (64 + 56 * j + 16) (le 8 ss[j].addr)).length = n := by rw [length_splice _ _ _ (by rw [le_length]; first | (rw [hlj]; omega) | (rw [hl3]; omega))]; first | exact hlj | exact hl3
        clear hz hk hq3
        have hz := Lib.hid (show (64 + 56 * (j : Int) + 24) = ((64 + 56 * j + 24 : Nat) : Int) by omega)
        go_wp2_with fail
        refine Calls.mono (eputU_int _ g 8 n n (64 + 56 * j + 24) ss[j].addr (64 + 56 * (j : Int) + 24) _ hz.out hq4 (by first | exact hlj | exact hl4) (by omega) (by omega) (by decide) (by omega)) ?_
        rintro e x5 ⟨rfl, hq5, hk⟩
        have hk5 := hk4.trans hk
        have e0 : wr.heap.size ≠ g := by omega
        have d0 := (hk.cell (p := ⟨wr.heap.size, 0, none⟩) hq4s e0).trans d0
        have d1 := (hk.cell (p := ⟨wr.heap.size, 1, none⟩) hq4s e0).trans d1
        have d2 := (hk.cell (p := ⟨wr.heap.size, 2, none⟩) hq4s e0).trans d2
        have d3 := (hk.cell (p := ⟨wr.heap.size, 3, none⟩) hq4s e0).trans d3
        have hpc0 := (hk.cell (p := ⟨b2, o2 + j, none⟩) hpcl (Nat.ne_of_lt hb2w)).trans hpc0
        have hpcl := Nat.lt_of_lt_of_le hpcl hk.size
        have hq5s := Nat.lt_of_lt_of_le hq4s hk.size
        have hl5 : (splice (splice (splice (splice (splice (fileT en (ss.map Sg.d) j) (64 + 56 * j) (le 4 1)) (64 + 56 * j + 4) (le 4 pm)) (64 + 56 * j + 8) (le 8 pl)) (64 + 56 * j + 16) (le 8 ss[j].addr)) (64 + 56 * j + 24) (le 8 ss[j].addr)).length = n := by rw [length_splice _ _ _ (by rw [le_length]; first | (rw [hlj]; omega) | (rw [hl4]; omega))]; first | exact hlj | exact hl4
        clear hz hk hq4
        have hz := Lib.hid (show (64 + 56 * (j : Int) + 32) = ((64 + 56 * j + 32 : Nat) : Int) by omega)
        go_wp2_with fail
        refine Calls.mono (eputI_int _ g 8 n n (64 + 56 * j + 32) ss[j].data.length (64 + 56 * (j : Int) + 32) (ss[j].data.length : Int) _ hz.out rfl hq5 (by first | exact hlj | exact hl5) (by omega) (by omega) (by decide) (by omega)) ?_
        rintro e x6 ⟨rfl, hq6, hk⟩
        have hk6 := hk5.trans hk
        have e0 : wr.heap.size ≠ g := by omega
        have d0 := (hk.cell (p := ⟨wr.heap.size, 0, none⟩) hq5s e0).trans d0
        have d1 := (hk.cell (p := ⟨wr.heap.size, 1, none⟩) hq5s e0).trans d1
        have d2 := (hk.cell (p := ⟨wr.heap.size, 2, none⟩) hq5s e0).trans d2
        have d3 := (hk.cell (p := ⟨wr.heap.size, 3, none⟩) hq5s e0).trans d3
        have hpc0 := (hk.cell (p := ⟨b2, o2 + j, none⟩) hpcl (Nat.ne_of_lt hb2w)).trans hpc0
        have hpcl := Nat.lt_of_lt_of_le hpcl hk.size
        have hq6s := Nat.lt_of_lt_of_le hq5s hk.size
        have hl6 : (splice (splice (splice (splice (splice (splice (fileT en (ss.map Sg.d) j) (64 + 56 * j) (le 4 1)) (64 + 56 * j + 4) (le 4 pm)) (64 + 56 * j + 8) (le 8 pl)) (64 + 56 * j + 16) (le 8 ss[j].addr)) (64 + 56 * j + 24) (le 8 ss[j].addr)) (64 + 56 * j + 32) (le 8 ss[j].data.length)).length = n := by rw [length_splice _ _ _ (by rw [le_length]; first | (rw [hlj]; omega) | (rw [hl5]; omega))]; first | exact hlj | exact hl5
        clear hz hk hq5
        have hz := Lib.hid (show (64 + 56 * (j : Int) + 40) = ((64 + 56 * j + 40 : Nat) : Int) by omega)
        go_wp2_with fail
        refine Calls.mono (eputU_int _ g 8 n n (64 + 56 * j + 40) ss[j].size (64 + 56 * (j : Int) + 40) _ hz.out hq6 (by first | exact hlj | exact hl6) (by omega) (by omega) (by decide) (by omega)) ?_
        rintro e x7 ⟨rfl, hq7, hk⟩
        have hk7 := hk6.trans hk
        have e0 : wr.heap.size ≠ g := by omega
        have d0 := (hk.cell (p := ⟨wr.heap.size, 0, none⟩) hq6s e0).trans d0
        have d1 := (hk.cell (p := ⟨wr.heap.size, 1, none⟩) hq6s e0).trans d1
        have d2 := (hk.cell (p := ⟨wr.heap.size, 2, none⟩) hq6s e0).trans d2
        have d3 := (hk.cell (p := ⟨wr.heap.size, 3, none⟩) hq6s e0).trans d3
        have hpc0 := (hk.cell (p := ⟨b2, o2 + j, none⟩) hpcl (Nat.ne_of_lt hb2w)).trans hpc0
        have hpcl := Nat.lt_of_lt_of_le hpcl hk.size
        have hq7s := Nat.lt_of_lt_of_le hq6s hk.size
        have hl7 : (splice (splice (splice (splice (splice (splice (splice (fileT en (ss.map Sg.d) j) (64 + 56 * j) (le 4 1)) (64 + 56 * j + 4) (le 4 pm)) (64 + 56 * j + 8) (le 8 pl)) (64 + 56 * j + 16) (le 8 ss[j].addr)) (64 + 56 * j + 24) (le 8 ss[j].addr)) (64 + 56 * j + 32) (le 8 ss[j].data.length)) (64 + 56 * j + 40) (le 8 ss[j].size)).length = n := by rw [length_splice _ _ _ (by rw [le_length]; first | (rw [hlj]; omega) | (rw [hl6]; omega))]; first | exact hlj | exact hl6
        clear hz hk hq6
        have hz := Lib.hid (show (64 + 56 * (j : Int) + 48) = ((64 + 56 * j + 48 : Nat) : Int) by omega)
        go_wp2_with fail
        refine Calls.mono (eputI_int _ g 8 n n (64 + 56 * j + 48) 4096 (64 + 56 * (j : Int) + 48) 4096 _ hz.out rfl hq7 (by first | exact hlj | exact hl7) (by omega) (by omega) (by decide) (by omega)) ?_
        rintro e x8 ⟨rfl, hq8, hk⟩
        have hk8 := hk7.trans hk
        have e0 : wr.heap.size ≠ g := by omega
        have d0 := (hk.cell (p := ⟨wr.heap.size, 0, none⟩) hq7s e0).trans d0
        have d1 := (hk.cell (p := ⟨wr.heap.size, 1, none⟩) hq7s e0).trans d1
        have d2 := (hk.cell (p := ⟨wr.heap.size, 2, none⟩) hq7s e0).trans d2
        have d3 := (hk.cell (p := ⟨wr.heap.size, 3, none⟩) hq7s e0).trans d3
        have hpc0 := (hk.cell (p := ⟨b2, o2 + j, none⟩) hpcl (Nat.ne_of_lt hb2w)).trans hpc0
        have hpcl := Nat.lt_of_lt_of_le hpcl hk.size
        have hq8s := Nat.lt_of_lt_of_le hq7s hk.size
        have hl8 : (splice (splice (splice (splice (splice (splice (splice (splice (fileT en (ss.map Sg.d) j) (64 + 56 * j) (le 4 1)) (64 + 56 * j + 4) (le 4 pm)) (64 + 56 * j + 8) (le 8 pl)) (64 + 56 * j + 16) (le 8 ss[j].addr)) (64 + 56 * j + 24) (le 8 ss[j].addr)) (64 + 56 * j + 32) (le 8 ss[j].data.length)) (64 + 56 * j + 40) (le 8 ss[j].size)) (64 + 56 * j + 48) (le 8 4096)).length = n := by rw [length_splice _ _ _ (by rw [le_length]; first | (rw [hlj]; omega) | (rw [hl7]; omega))]; first | exact hlj | exact hl7
        clear hz hk hq7
        have hrc := HS.out.1
        rw [← HPM.out] at hrc
        rw [hrc] at hq8 hl8
        clear hrc
        have hby8 : Bs w.heap.size x8 ss[j].A ss[j].data := hby.below (hk8.below (by omega) (by rintro b rfl; omega))
        go_wp2_with fail
        have hG8 : Below g w2 x8 := hB.trans (hk8.below (by omega) (by rintro b rfl; exact Nat.le_refl _))
        have hsz8 : g < x8.heap.size := hq8.lt
        clear q0 q1 q2 q3 hby hbj c0 c1 hb2 hv2 hk8 d0 d1 d3 hpcl hq8s
        have hi1 : (j : Int) < (ss.length : Int) := by omega
        have hi2 : (pl : Int) ≤ (n : Int) := by omega
        have hsl : (n : Int) - (pl : Int) = ((n - pl : Nat) : Int) := by omega
        have HSL := Lib.hid hsl
        clear hsl
        go_region_law (refine step_copyB rfl (.tmp 103) (.tmp 105) rfl g pl (n - pl) (n - pl) (by exact rfl) _ hq8 ss[j].A ss[j].data.length ss[j].cap w.heap.size rfl ss[j].data hby8 rfl (by omega) (by omega) ?_; intro w9 hq9 hk9)
        all_goals
          clear hi1 hi2 hne hpc0 d2 hby8 hq8 hl8 hfit
          go_wp2
          go_roundw
          case rel =>
            refine ⟨j + 1, by omega, by go_num, ?_, ?_⟩
            · rw [HS.out.2, ← HPM.out]; exact hq9
            · exact (hG8.drew).trans (hk9.below (Nat.le_of_lt hsz8) (by rintro b rfl; exact Nat.le_refl _))
          case measure => simp [intOf]; omega
      · have hd3 : decide ((j : Int) < (ss.length : Int)) = false := by simp; omega
        obtain rfl : j = ss.length := by omega
        go_wp2
        go_ret
        refine ⟨g, n, rfl, ?_, by omega, ?_, by omega, ?_⟩
        · unfold fileB; rw [List.length_map]; exact hbj
        · unfold fileB; rw [List.length_map]; exact hlj.symm
        · exact hb0.trans ((hpre.trans (hB.mono hg2)).mono (Nat.le_succ _))
end Go.Proofs
