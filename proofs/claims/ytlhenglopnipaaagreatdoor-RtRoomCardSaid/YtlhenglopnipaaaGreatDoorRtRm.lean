/- The main that takes blocks until there are none: how it lies, and what it does. Plain: no program in sight. -/
import Derived.Test.YtlhenglopnipaaaGreatDoorRtAl
namespace Go.Pat
open Go Go.RowKit Go.Proofs
def nmAlloc : ByteArray := ⟨#[114, 116, 46, 97, 108, 108, 111, 99]⟩
def nmFree : ByteArray := ⟨#[114, 116, 46, 102, 114, 101, 101]⟩
def nmLoop : ByteArray := ⟨#[102, 46, 109, 97, 105, 110, 46, 108, 111, 111, 112]⟩
def nmEnd : ByteArray := ⟨#[102, 46, 109, 97, 105, 110, 46, 101, 110, 100]⟩
def keptHead : List It := [⟨2, no, 22, 2, 2, 0, -16⟩, ⟨2, no, 21, 0, 2, 9, 0⟩, ⟨2, no, 21, 0, 2, 18, 8⟩, ⟨3, no, 0, 9, 0, 0, 0⟩, ⟨3, no, 0, 18, 0, 0, 0⟩]
def keptTail : List It := [⟨2, no, 14, 9, 2, 0, 0⟩, ⟨2, no, 14, 18, 2, 0, 8⟩, ⟨2, no, 22, 2, 2, 0, 16⟩]
/-- items between which two registers are kept. -/
def keptL (l : List It) : List It := (keptHead ++ l) ++ keptTail
def loopL (n k : Int) : List It := [⟨3, no, 0, 9, 0, 0, n⟩, ⟨1, nmLoop, 0, 0, 0, 0, 0⟩, ⟨7, nmEnd, 5, 0, 9, 0, 0⟩, ⟨3, no, 0, 10, 0, 0, k⟩, ⟨6, nmAlloc, 0, 1, 0, 0, 0⟩, ⟨2, no, 22, 9, 9, 0, -1⟩, ⟨5, nmLoop, 0, 0, 0, 0, 0⟩, ⟨1, nmEnd, 0, 0, 0, 0, 0⟩]
def rmL (n k : Int) : List It := keptL (loopL n k)
def rmC (n k : Int) : List In := [⟨22, 2, 2, 0, -16⟩, ⟨21, 0, 2, 9, 0⟩, ⟨21, 0, 2, 18, 8⟩, ⟨22, 9, 0, 0, 0⟩, ⟨22, 18, 0, 0, 0⟩, ⟨22, 9, 0, 0, n⟩, ⟨5, 0, 9, 0, 20⟩, ⟨22, 10, 0, 0, k⟩, ⟨3, 1, 0, 0, -216⟩, ⟨22, 9, 9, 0, -1⟩, ⟨3, 0, 0, 0, -16⟩, ⟨14, 9, 2, 0, 0⟩, ⟨14, 18, 2, 0, 8⟩, ⟨22, 2, 2, 0, 16⟩]
def keptZ : List (It × Int) := [(⟨2, no, 22, 2, 2, 0, -16⟩, 4), (⟨2, no, 21, 0, 2, 9, 0⟩, 4), (⟨2, no, 21, 0, 2, 18, 8⟩, 4), (⟨3, no, 0, 9, 0, 0, 0⟩, 4), (⟨3, no, 0, 18, 0, 0, 0⟩, 4)]
def rmZ (n k : Int) : List (It × Int) := keptZ ++ ([(⟨3, no, 0, 9, 0, 0, n⟩, 4), (⟨1, nmLoop, 0, 0, 0, 0, 0⟩, 0), (⟨7, nmEnd, 5, 0, 9, 0, 0⟩, 4), (⟨3, no, 0, 10, 0, 0, k⟩, 4), (⟨6, nmAlloc, 0, 1, 0, 0, 0⟩, 4), (⟨2, no, 22, 9, 9, 0, -1⟩, 4), (⟨5, nmLoop, 0, 0, 0, 0, 0⟩, 4), (⟨1, nmEnd, 0, 0, 0, 0, 0⟩, 0)] ++ [(⟨2, no, 14, 9, 2, 0, 0⟩, 4), (⟨2, no, 14, 18, 2, 0, 8⟩, 4), (⟨2, no, 22, 2, 2, 0, 16⟩, 4)])
theorem liL_small (rd n : Int) (h : -2048 ≤ n ∧ n ≤ 2047) : liL rd n = [⟨22, rd, 0, 0, n⟩] := by
  show liM (5 + 1) rd n = _
  rw [liM, if_pos h]
theorem least_li (rd n : Int) (h : -2048 ≤ n ∧ n ≤ 2047) : leastM ⟨3, no, 0, rd, 0, 0, n⟩ = 4 := by
  show (if (3 : Int) = 3 then 4 * ((liL rd n).length : Int) else _) = _
  rw [if_pos rfl, liL_small rd n h]
  rfl
theorem rmZ_is (n k : Int) (hn : -2048 ≤ n ∧ n ≤ 2047) (hk : -2048 ≤ k ∧ k ≤ 2047) : zL (rmL n k) = rmZ n k := by
  have e : zL (rmL n k) = keptZ ++ ([(⟨3, no, 0, 9, 0, 0, n⟩, leastM ⟨3, no, 0, 9, 0, 0, n⟩), (⟨1, nmLoop, 0, 0, 0, 0, 0⟩, 0), (⟨7, nmEnd, 5, 0, 9, 0, 0⟩, 4), (⟨3, no, 0, 10, 0, 0, k⟩, leastM ⟨3, no, 0, 10, 0, 0, k⟩), (⟨6, nmAlloc, 0, 1, 0, 0, 0⟩, 4), (⟨2, no, 22, 9, 9, 0, -1⟩, 4), (⟨5, nmLoop, 0, 0, 0, 0, 0⟩, 4), (⟨1, nmEnd, 0, 0, 0, 0, 0⟩, 0)] ++ [(⟨2, no, 14, 9, 2, 0, 0⟩, 4), (⟨2, no, 14, 18, 2, 0, 8⟩, 4), (⟨2, no, 22, 2, 2, 0, 16⟩, 4)]) := by kernel_rfl
  rw [e, least_li 9 n hn, least_li 10 k hk]
  rfl
def backB (c : In) : Bool := decide (encZ c.op c.rd c.a c.b c.n < 4294967296) && decide ((decR (encZ c.op c.rd c.a c.b c.n)).map (fun i => (i.op, i.rd, i.rs1, i.rs2, i.imm)) = some (c.op.toNat, c.rd.toNat, c.a.toNat, c.b.toNat, c.n))
theorem back_of {c : In} (h : backB c = true) : backI c := by
  unfold backB at h
  simp only [Bool.and_eq_true, decide_eq_true_eq] at h
  obtain ⟨h1, h2⟩ := h
  refine ⟨h1, ?_⟩
  cases hd : decR (encZ c.op c.rd c.a c.b c.n) with
  | none => rw [hd] at h2; cases h2
  | some i =>
    rw [hd] at h2
    obtain ⟨o, d, a, b, n⟩ := i
    simp only [Option.map_some, Option.some.injEq, Prod.mk.injEq] at h2
    obtain ⟨rfl, rfl, rfl, rfl, rfl⟩ := h2
    rfl
theorem right_addi (rd n : Int) (hrd : 0 ≤ rd ∧ rd ≤ 31) (h : -2048 ≤ n ∧ n ≤ 2047) : rightI 22 rd 0 0 n = true := by
  unfold rightI
  show (((((true && regB rd true) && regB 0 true) && regB 0 false) && immB1 73 n) = true)
  simp [regB, immB1, hrd.1, hrd.2, h.1, h.2]
section
variable (n k : Int)
def rmF0 : Names := fold0 (fun _ => none) ((rtText ++ bodyL (rmL n k)) ++ rtData)
set_option maxRecDepth 100000 in
theorem rm_fresh : freshB (fun _ => none) ((rtText ++ bodyL (rmL n k)) ++ rtData) = true := by kernel_rfl
set_option maxRecDepth 100000 in
theorem rm_named : ((rtText ++ bodyL (rmL n k)).all fun x => (x.s.toList == []) || (rmF0 n k x.s.data.toList).isSome) = true := by kernel_rfl
def rmG (z : List (It × Int)) : Names := layL (zL rtData) 16777216 (layL z 65536 (rmF0 n k))
def rmT : List (It × Int) := zL (rtText ++ mainHead) ++ (rmZ n k ++ zL mainTail)
set_option maxRecDepth 100000 in
theorem rm_good : goodL (rmG n k (rmT n k)) 65536 (rmT n k) = true := by kernel_rfl
theorem flat_step (F : Names) (at_ a2 : Nat) (x : It) (s : Int) (r : List (It × Int)) (c : List In) (hc : (codeM x s (distM F x.s at_)).1 = c) (ha : wrN ((at_ : Int) + s) = a2) : flatI F at_ ((x, s) :: r) = c ++ flatI F a2 r := by subst hc ha; rfl
/-- the names that the main asks for. -/
def rmN : Names := fun l => if l = nmEnd.data.toList then some 65900 else if l = nmLoop.data.toList then some 65880 else if l = nmAlloc.data.toList then some 65672 else none
theorem same_at {G F : Names} (x : It) (hx : jumps x → F x.s.data.toList = G x.s.data.toList) (s : Int) (at_ : Nat) : codeM x s (distM F x.s at_) = codeM x s (distM G x.s at_) := by
  by_cases hj : jumps x
  · unfold distM; rw [hx hj]
  · exact code_free x s _ _ hj
theorem flat_same {G F : Names} : ∀ (l : List (It × Int)) (at_ : Nat), (l.all fun x => !decide (jumps x.1) || F x.1.s.data.toList == G x.1.s.data.toList) = true → flatI F at_ l = flatI G at_ l
  | [], _, _ => rfl
  | x :: r, at_, h => by
    rw [List.all_cons, Bool.and_eq_true] at h
    rw [flatI, flatI, same_at x.1 (fun hj => by have := h.1; simpa [hj] using this) x.2 at_, flat_same r _ h.2]
set_option maxRecDepth 100000 in
theorem rm_sameA : ((zL (rtText ++ mainHead)).all fun x => !decide (jumps x.1) || rmG n k (rmT n k) x.1.s.data.toList == rtN x.1.s.data.toList) = true := by kernel_rfl
set_option maxRecDepth 100000 in
theorem rm_sameB : ((rmZ n k ++ zL mainTail).all fun x => !decide (jumps x.1) || rmG n k (rmT n k) x.1.s.data.toList == rmN x.1.s.data.toList) = true := by kernel_rfl
theorem rm_flatB (hn : -2048 ≤ n ∧ n ≤ 2047) (hk : -2048 ≤ k ∧ k ≤ 2047) : flatI rmN 65856 (rmZ n k ++ zL mainTail) = rmC n k ++ tailC := by
  refine (flat_step rmN 65856 65860 ⟨2, no, 22, 2, 2, 0, -16⟩ 4 _ [⟨22, 2, 2, 0, -16⟩] (by decide +kernel) (by decide)).trans ?_
  refine congrArg (fun q : List In => ([⟨22, 2, 2, 0, -16⟩] : List In) ++ q) ?_
  refine (flat_step rmN 65860 65864 ⟨2, no, 21, 0, 2, 9, 0⟩ 4 _ [⟨21, 0, 2, 9, 0⟩] (by decide +kernel) (by decide)).trans ?_
  refine congrArg (fun q : List In => ([⟨21, 0, 2, 9, 0⟩] : List In) ++ q) ?_
  refine (flat_step rmN 65864 65868 ⟨2, no, 21, 0, 2, 18, 8⟩ 4 _ [⟨21, 0, 2, 18, 8⟩] (by decide +kernel) (by decide)).trans ?_
  refine congrArg (fun q : List In => ([⟨21, 0, 2, 18, 8⟩] : List In) ++ q) ?_
  refine (flat_step rmN 65868 65872 ⟨3, no, 0, 9, 0, 0, 0⟩ 4 _ [⟨22, 9, 0, 0, 0⟩] (by decide +kernel) (by decide)).trans ?_
  refine congrArg (fun q : List In => ([⟨22, 9, 0, 0, 0⟩] : List In) ++ q) ?_
  refine (flat_step rmN 65872 65876 ⟨3, no, 0, 18, 0, 0, 0⟩ 4 _ [⟨22, 18, 0, 0, 0⟩] (by decide +kernel) (by decide)).trans ?_
  refine congrArg (fun q : List In => ([⟨22, 18, 0, 0, 0⟩] : List In) ++ q) ?_
  refine (flat_step rmN 65876 65880 ⟨3, no, 0, 9, 0, 0, n⟩ 4 _ [⟨22, 9, 0, 0, n⟩] (by show liL _ _ = _; exact liL_small 9 n hn) (by decide)).trans ?_
  refine congrArg (fun q : List In => ([⟨22, 9, 0, 0, n⟩] : List In) ++ q) ?_
  refine (flat_step rmN 65880 65880 ⟨1, nmLoop, 0, 0, 0, 0, 0⟩ 0 _ [] (by decide +kernel) (by decide)).trans ?_
  refine congrArg (fun q : List In => ([] : List In) ++ q) ?_
  refine (flat_step rmN 65880 65884 ⟨7, nmEnd, 5, 0, 9, 0, 0⟩ 4 _ [⟨5, 0, 9, 0, 20⟩] (by decide +kernel) (by decide)).trans ?_
  refine congrArg (fun q : List In => ([⟨5, 0, 9, 0, 20⟩] : List In) ++ q) ?_
  refine (flat_step rmN 65884 65888 ⟨3, no, 0, 10, 0, 0, k⟩ 4 _ [⟨22, 10, 0, 0, k⟩] (by show liL _ _ = _; exact liL_small 10 k hk) (by decide)).trans ?_
  refine congrArg (fun q : List In => ([⟨22, 10, 0, 0, k⟩] : List In) ++ q) ?_
  refine (flat_step rmN 65888 65892 ⟨6, nmAlloc, 0, 1, 0, 0, 0⟩ 4 _ [⟨3, 1, 0, 0, -216⟩] (by decide +kernel) (by decide)).trans ?_
  refine congrArg (fun q : List In => ([⟨3, 1, 0, 0, -216⟩] : List In) ++ q) ?_
  refine (flat_step rmN 65892 65896 ⟨2, no, 22, 9, 9, 0, -1⟩ 4 _ [⟨22, 9, 9, 0, -1⟩] (by decide +kernel) (by decide)).trans ?_
  refine congrArg (fun q : List In => ([⟨22, 9, 9, 0, -1⟩] : List In) ++ q) ?_
  refine (flat_step rmN 65896 65900 ⟨5, nmLoop, 0, 0, 0, 0, 0⟩ 4 _ [⟨3, 0, 0, 0, -16⟩] (by decide +kernel) (by decide)).trans ?_
  refine congrArg (fun q : List In => ([⟨3, 0, 0, 0, -16⟩] : List In) ++ q) ?_
  refine (flat_step rmN 65900 65900 ⟨1, nmEnd, 0, 0, 0, 0, 0⟩ 0 _ [] (by decide +kernel) (by decide)).trans ?_
  refine congrArg (fun q : List In => ([] : List In) ++ q) ?_
  refine (flat_step rmN 65900 65904 ⟨2, no, 14, 9, 2, 0, 0⟩ 4 _ [⟨14, 9, 2, 0, 0⟩] (by decide +kernel) (by decide)).trans ?_
  refine congrArg (fun q : List In => ([⟨14, 9, 2, 0, 0⟩] : List In) ++ q) ?_
  refine (flat_step rmN 65904 65908 ⟨2, no, 14, 18, 2, 0, 8⟩ 4 _ [⟨14, 18, 2, 0, 8⟩] (by decide +kernel) (by decide)).trans ?_
  refine congrArg (fun q : List In => ([⟨14, 18, 2, 0, 8⟩] : List In) ++ q) ?_
  refine (flat_step rmN 65908 65912 ⟨2, no, 22, 2, 2, 0, 16⟩ 4 _ [⟨22, 2, 2, 0, 16⟩] (by decide +kernel) (by decide)).trans ?_
  refine congrArg (fun q : List In => ([⟨22, 2, 2, 0, 16⟩] : List In) ++ q) ?_
  refine (flat_step rmN 65912 65916 ⟨2, no, 14, 1, 2, 0, 0⟩ 4 _ [⟨14, 1, 2, 0, 0⟩] (by decide +kernel) (by decide)).trans ?_
  refine congrArg (fun q : List In => ([⟨14, 1, 2, 0, 0⟩] : List In) ++ q) ?_
  refine (flat_step rmN 65916 65920 ⟨2, no, 22, 2, 2, 0, 16⟩ 4 _ [⟨22, 2, 2, 0, 16⟩] (by decide +kernel) (by decide)).trans ?_
  refine congrArg (fun q : List In => ([⟨22, 2, 2, 0, 16⟩] : List In) ++ q) ?_
  refine (flat_step rmN 65920 65924 ⟨2, no, 4, 0, 1, 0, 0⟩ 4 _ [⟨4, 0, 1, 0, 0⟩] (by decide +kernel) (by decide)).trans ?_
  refine congrArg (fun q : List In => ([⟨4, 0, 1, 0, 0⟩] : List In) ++ q) ?_
  rfl
theorem rm_flat (hn : -2048 ≤ n ∧ n ≤ 2047) (hk : -2048 ≤ k ∧ k ≤ 2047) : flatI (rmG n k (rmT n k)) 65536 (rmT n k) = allC (rmC n k) := by
  show flatI (rmG n k (rmT n k)) 65536 (zL (rtText ++ mainHead) ++ (rmZ n k ++ zL mainTail)) = _
  rw [flatI_app, flat_same _ _ (rm_sameA n k), rtI_is, rt_end, flat_same _ _ (rm_sameB n k), rm_flatB n k hn hk]
  unfold allC
  rw [List.append_assoc]
set_option maxRecDepth 100000 in
theorem rm_start : rmG n k (rmT n k) nmStart.data.toList = some 65536 := by kernel_rfl
end
theorem room_asmd (n k : Int) (hn : 0 ≤ n ∧ n ≤ 1200) (hk : 0 ≤ k ∧ k ≤ 64) : Asmd (rmL n k) (rmC n k) := by
  have hn2 : -2048 ≤ n ∧ n ≤ 2047 := ⟨by omega, by omega⟩
  have hk2 : -2048 ≤ k ∧ k ≤ 2047 := ⟨by omega, by omega⟩
  have hz : zL (rtText ++ bodyL (rmL n k)) = rmT n k := by rw [text_is, zL_append (rtText ++ mainHead), zL_append (rmL n k), rmZ_is n k hn2 hk2]; rfl
  have hli : ∀ rd m : Int, 0 ≤ rd ∧ rd ≤ 31 → itemE ⟨3, no, 0, rd, 0, 0, m⟩ false = 0 := fun rd m h => by simp [itemE, okI, inB2, onlyB, h.1, h.2]
  have hit : ∀ x ∈ rmL n k, itemE x false = 0 ∧ ((-9223372036854775808 ≤ x.n ∧ x.n < 9223372036854775808) ∧ x.s.size ≤ 128) := by
    intro x hx
    simp only [rmL, keptL, List.mem_append] at hx
    rcases hx with (hx | hx) | hx
    · exact (show ∀ x ∈ keptHead, itemE x false = 0 ∧ ((-9223372036854775808 ≤ x.n ∧ x.n < 9223372036854775808) ∧ x.s.size ≤ 128) by decide +kernel) x hx
    · simp only [loopL, List.mem_cons, List.not_mem_nil, or_false] at hx
      rcases hx with rfl | rfl | rfl | rfl | rfl | rfl | rfl | rfl
      · exact ⟨hli 9 n (by decide), ⟨by show -9223372036854775808 ≤ n; omega, by show n < 9223372036854775808; omega⟩, by show no.size ≤ 128; decide⟩
      · decide +kernel
      · decide +kernel
      · exact ⟨hli 10 k (by decide), ⟨by show -9223372036854775808 ≤ k; omega, by show k < 9223372036854775808; omega⟩, by show no.size ≤ 128; decide⟩
      · decide +kernel
      · decide +kernel
      · decide +kernel
      · decide +kernel
    · exact (show ∀ x ∈ keptTail, itemE x false = 0 ∧ ((-9223372036854775808 ≤ x.n ∧ x.n < 9223372036854775808) ∧ x.s.size ≤ 128) by decide +kernel) x hx
  refine ⟨by show (16 : Nat) ≤ 100000; decide, by show (14 : Nat) ≤ 230000; decide, fun S hS => ?_, main_nums fun x hx => (hit x hx).2, fun c hc => ?_⟩
  · have hb : begM (rtText ++ bodyL (rmL n k)) rtData 65536 16777216 = .inr (rmF0 n k) := by
      refine rbegM_good (rtText ++ bodyL (rmL n k)) rtData 65536 16777216 ⟨by decide, by decide, by decide, by decide⟩ ?_ (fun x hx => ?_) rt_datas (rm_fresh n k) (fun x hx hs => ?_)
      · rw [List.length_append, rt_size1]
        show 85 + 22 + 9 ≤ 1048576
        decide
      · rw [text_is] at hx
        rcases List.mem_append.1 hx with hx | hx
        · exact rt_items x hx
        · rcases List.mem_append.1 hx with hx | hx
          · exact (hit x hx).1
          · exact (rt_tail x hx).1
      · have := List.all_eq_true.1 (rm_named n k) x hx
        simp only [Bool.or_eq_true, beq_iff_eq] at this
        rcases this with h | h
        · exact absurd h hs
        · exact h
    have ha := asm_good (rtText ++ bodyL (rmL n k)) rtData 65536 16777216 (rmF0 n k) hb (by rw [hz]; exact rm_good n k) S hS
    rw [hz] at ha
    rw [show flatI (layL (zL rtData) 16777216 (layL (rmT n k) 65536 (rmF0 n k))) 65536 (rmT n k) = allC (rmC n k) from rm_flat n k hn2 hk2] at ha
    have hs : (layL (zL rtData) 16777216 (layL (rmT n k) 65536 (rmF0 n k))) nmStart.data.toList = some 65536 := rm_start n k
    obtain ⟨G, hGe⟩ : ∃ G, G = layL (zL rtData) 16777216 (layL (rmT n k) 65536 (rmF0 n k)) := ⟨_, rfl⟩
    rw [← hGe] at ha hs
    refine ⟨_, ha, ?_, ?_, ?_⟩
    · show (if nmStart.toList = nmStart.toList then ((G nmStart.data.toList).getD 0, true) else _) = _
      rw [if_pos rfl, hs]
      rfl
    · show (if nmStart.toList = nmStart.toList then (0 : Int) else _) = _
      rw [if_pos rfl]
    · refine Nat.le_trans (labsM_len _ _) ?_
      rw [List.length_append, List.length_append, rt_size1]
      show 85 + 22 + 9 ≤ 200000
      decide
  · unfold allC at hc
    rw [← List.append_assoc] at hc
    rcases List.mem_append.1 hc with hc | hc
    · exact back_rt c hc
    · rcases List.mem_append.1 hc with hc | hc
      · simp only [rmC, List.mem_cons, List.not_mem_nil, or_false] at hc
        rcases hc with rfl | rfl | rfl | rfl | rfl | rfl | rfl | rfl | rfl | rfl | rfl | rfl | rfl | rfl
        · exact back_of (by decide +kernel)
        · exact back_of (by decide +kernel)
        · exact back_of (by decide +kernel)
        · exact back_of (by decide +kernel)
        · exact back_of (by decide +kernel)
        · exact back_22 9 0 0 n (right_addi 9 n (by decide) hn2)
        · exact back_of (by decide +kernel)
        · exact back_22 10 0 0 k (right_addi 10 k (by decide) hk2)
        · exact back_of (by decide +kernel)
        · exact back_of (by decide +kernel)
        · exact back_of (by decide +kernel)
        · exact back_of (by decide +kernel)
        · exact back_of (by decide +kernel)
        · exact back_of (by decide +kernel)
      · exact (lay_tail 65536 (by decide)).back c hc
section
variable {inp : List UInt8}
/-- the heap so far: nothing was given back, so many blocks are in use; and what the main keeps. -/
structure Hp (m : Nat → Nat) (u : Nat) : Prop where
  lst : ldA m 16777216 8 = 0
  use : ldA m 16777224 8 = u
theorem ldA_zero_ne (m : Nat → Nat) (a n b k : Nat) (h : b + k ≤ a ∨ a + n ≤ b) : ldA (zeroTo m a n) b k = ldA m b k :=
  ldA_same k fun x h1 h2 => by unfold zeroTo; rw [if_neg (by omega)]
theorem keep_fresh (m : Nat → Nat) (u k a : Nat) (hk : k ≤ 64) (hu : u < 256) (ha : 33554432 ≤ a) : ldA (zeroTo (stA m 16777224 (u + 1) 8) (16777264 + 512 * u) (8 * k)) a 8 = ldA m a 8 := by
  rw [ldA_zero_ne _ _ _ _ _ (by omega), ldA_st_ne _ _ _ _ _ _ (by omega)]
theorem Hp.fresh {m : Nat → Nat} {u : Nat} (h : Hp m u) (k : Nat) (hu : u < 256) : Hp (zeroTo (stA m 16777224 (u + 1) 8) (16777264 + 512 * u) (8 * k)) (u + 1) := by
  refine ⟨?_, ?_⟩
  · rw [ldA_zero_ne _ _ _ _ _ (by omega), ldA_st_ne _ _ _ _ _ _ (by omega)]; exact h.lst
  · rw [ldA_zero_ne _ _ _ _ _ (by omega), ldA_st8 _ _ _ (by omega)]
/-- the main's loop. -/
theorem room_loop (N K : Nat) (hN : N ≤ 1200) (hK : K ≤ 64) (P : List Ins) (hP : P = allP (rmC N K)) : ∀ (j u : Nat) (r m : Nat → Nat), u + j = N → Good ⟨65880, r, m, [], 0⟩ → r 9 = j → Hp m u →
    (∃ r' m', To P inp (400 * j + 1) ⟨65880, r, m, [], 0⟩ ⟨65900, r', m', [], 0⟩ ∧ r' 2 = r 2 ∧ ∀ a, 33554432 ≤ a → ldA m' a 8 = ldA m a 8) ∨
    (256 < N ∧ ∃ r' m', To P inp (400 * j + 1) ⟨65880, r, m, [], 0⟩ ⟨65792, r', m', [], 0⟩ ∧ r' 17 = 93 ∧ r' 10 = 110)
  | 0, u, r, m, hu, hg, h9, hp => by
    refine .inl ⟨r, m, To.via (st_br 5 9 0 20 (by decide) (by rw [hP]; rfl) true (by show decide (r 9 = r 0) = true; rw [h9, show r 0 = 0 from hg.z]; decide) 65900 (by decide)) (To.refl _), rfl, fun _ _ => rfl⟩
  | j + 1, u, r, m, hu, hg, h9, hp => by
    have hz : r 0 = 0 := hg.z
    have wK : wrN (K : Int) = K := by unfold wrN; omega
    have hfew : P.length ≤ 4177920 := by rw [hP, allP_len]; show 83 + 14 ≤ 4177920; decide
    have hA : To P inp 3 ⟨65880, r, m, [], 0⟩ ⟨65672, up (up r 10 K) 1 65892, m, [], 0⟩ := by
      refine To.via (st_br 5 9 0 20 (by decide) (by rw [hP]; rfl) false (by show decide (r 9 = r 0) = false; rw [h9, hz]; exact decide_eq_false (by omega)) 65884 rfl) ?_
      refine To.via (st_ai 22 10 0 (K : Int) (by decide) (by rw [hP]; rfl) K (alu_addi _ _ _ (by rw [hz, wK]; omega))) ?_
      refine To.via (st_jal 1 (-216) (by rw [hP]; rfl) 65672 (by decide)) ?_
      exact To.refl 0
    by_cases hu2 : u < 256
    · obtain ⟨r1, h1, k1, -⟩ := alloc_fresh (headC.map In.ins ++ ((rmC N K).map In.ins ++ tailC.map In.ins)) inp K u 65892 (up (up r 10 K) 1 65892) m [] 0 hK hz rfl hp.lst hp.use hu2 rfl (by decide) (by decide)
      rw [← allP_rt, ← hP] at h1
      have e9 : r1 9 = j + 1 := (k1 9 (by decide) (by decide) (by decide) (by decide) (by decide)).trans h9
      have e2 : r1 2 = r 2 := k1 2 (by decide) (by decide) (by decide) (by decide) (by decide)
      have hB : To P inp 2 ⟨65892, r1, zeroTo (stA m 16777224 (u + 1) 8) (16777264 + 512 * u) (8 * K), [], 0⟩ ⟨65880, up (up r1 9 j) 0 65900, zeroTo (stA m 16777224 (u + 1) 8) (16777264 + 512 * u) (8 * K), [], 0⟩ := by
        refine To.via (st_ai 22 9 9 (-1) (by decide) (by rw [hP]; rfl) j (alu_addi _ _ _ (by rw [e9, show wrN (-1) = 18446744073709551615 by decide]; omega))) ?_
        refine To.via (st_jal 0 (-16) (by rw [hP]; rfl) 65880 (by decide)) ?_
        exact To.refl 0
      have hT := (hA.trans h1).trans hB
      have hg2 := hT.good hfew hg
      rcases room_loop N K hN hK P hP j (u + 1) _ _ (by omega) hg2 rfl (hp.fresh K hu2) with ⟨r', m', h2, q2, q3⟩ | ⟨hbig, r', m', h2, q17, q10⟩
      · exact .inl ⟨r', m', (hT.trans h2).mono (by omega), q2.trans e2, fun a ha => (q3 a ha).trans (keep_fresh m u K a hK hu2 ha)⟩
      · exact .inr ⟨hbig, r', m', (hT.trans h2).mono (by omega), q17, q10⟩
    · obtain ⟨r1, h1, q17, q10⟩ := alloc_full (headC.map In.ins ++ ((rmC N K).map In.ins ++ tailC.map In.ins)) inp K u (up (up r 10 K) 1 65892) m [] 0 hK hz rfl hp.lst hp.use (by omega)
      rw [← allP_rt, ← hP] at h1
      exact .inr ⟨by omega, r1, m, (hA.trans h1).mono (by omega), q17, q10⟩
/-- THE MAIN THAT TAKES BLOCKS. -/
theorem room_to (N K : Nat) (hN : N ≤ 1200) (hK : K ≤ 64) : ∃ r' m' pc, To (allP (rmC N K)) inp 500000 ⟨65536, fun _ => 0, fun _ => 0, [], 0⟩ ⟨pc, r', m', [], 0⟩ ∧ insAt (allP (rmC N K)) pc = some ⟨64, 0, 0, 0, 0⟩ ∧ r' 17 = 93 ∧ (r' 10 = 0 ∨ (r' 10 = 110 ∧ 256 < N)) := by
  obtain ⟨P, hP⟩ : ∃ P, P = allP (rmC N K) := ⟨_, rfl⟩
  obtain ⟨r, m, hA, hg, e2, el, ez⟩ := start_to (rmC N K) inp (by show (14 : Nat) ≤ 230000; decide)
  have hfew : P.length ≤ 4177920 := by rw [hP, allP_len]; show 83 + 14 ≤ 4177920; decide
  rw [← hP] at hA ⊢
  have hz : r 0 = 0 := hg.z
  have wN : wrN (N : Int) = N := by unfold wrN; omega
  have hB : To P inp 6 ⟨65856, r, m, [], 0⟩ ⟨65880, up (up (up (up r 2 33816544) 9 0) 18 0) 9 N, stA (stA m 33816544 (r 9) 8) 33816552 (r 18) 8, [], 0⟩ := by
    refine To.via (st_ai 22 2 2 (-16) (by decide) (by rw [hP]; rfl) 33816544 (alu_addi _ _ _ (by rw [e2]; decide))) ?_
    refine To.via (st_sd 2 9 0 (by rw [hP]; rfl) 33816544 (by rw [up_eq _ _ _ (by decide)]; decide) (by decide)) ?_
    rw [up_ne r 2 33816544 9 (by decide)]
    refine To.via (st_sd 2 18 8 (by rw [hP]; rfl) 33816552 (by rw [up_eq _ _ _ (by decide)]; decide) (by decide)) ?_
    rw [up_ne r 2 33816544 18 (by decide)]
    refine To.via (st_ai 22 9 0 0 (by decide) (by rw [hP]; rfl) 0 (alu_addi _ _ _ (by rw [up_ne _ _ _ _ (by decide), hz]; decide))) ?_
    refine To.via (st_ai 22 18 0 0 (by decide) (by rw [hP]; rfl) 0 (alu_addi _ _ _ (by rw [up_ne _ _ _ _ (by decide), up_ne _ _ _ _ (by decide), hz]; decide))) ?_
    refine To.via (st_ai 22 9 0 (N : Int) (by decide) (by rw [hP]; rfl) N (alu_addi _ _ _ (by rw [up_ne _ _ _ _ (by decide), up_ne _ _ _ _ (by decide), up_ne _ _ _ _ (by decide), hz, wN]; omega))) ?_
    exact To.refl 0
  have hg2 := hB.good hfew hg
  have hslot : ldA (stA (stA m 33816544 (r 9) 8) 33816552 (r 18) 8) 33816560 8 = 65552 := by
    rw [ldA_st_ne _ _ _ _ _ _ (by decide), ldA_st_ne _ _ _ _ _ _ (by decide)]; exact el
  have hld0 : ∀ a, a + 8 ≤ 33816560 → ldA m a 8 = 0 := fun a ha => by
    rw [ldA_same (m := fun _ => 0) 8 (fun x _ h2 => ez x (by omega))]
    simp [ldA]
  have hp : Hp (stA (stA m 33816544 (r 9) 8) 33816552 (r 18) 8) 0 := by
    refine ⟨?_, ?_⟩
    · rw [ldA_st_ne _ _ _ _ _ _ (by decide), ldA_st_ne _ _ _ _ _ _ (by decide)]; exact hld0 _ (by decide)
    · rw [ldA_st_ne _ _ _ _ _ _ (by decide), ldA_st_ne _ _ _ _ _ _ (by decide)]; exact hld0 _ (by decide)
  rcases room_loop N K hN hK P hP N 0 _ _ (by omega) hg2 rfl hp with ⟨r1, m1, h1, q2, q3⟩ | ⟨hbig, r1, m1, h1, q17, q10⟩
  · have f2 : r1 2 = 33816544 := q2
    have hC : To P inp 3 ⟨65900, r1, m1, [], 0⟩ ⟨65912, up (up (up r1 9 (ldA m1 33816544 8)) 18 (ldA m1 33816552 8)) 2 33816560, m1, [], 0⟩ := by
      refine To.via (st_ld 9 2 0 (by rw [hP]; rfl) 33816544 (by rw [f2]; decide) (by decide)) ?_
      refine To.via (st_ld 18 2 8 (by rw [hP]; rfl) 33816552 (by rw [up_ne _ _ _ _ (by decide), f2]; decide) (by decide)) ?_
      refine To.via (st_ai 22 2 2 16 (by decide) (by rw [hP]; rfl) 33816560 (alu_addi _ _ _ (by rw [up_ne _ _ _ _ (by decide), up_ne _ _ _ _ (by decide), f2]; decide))) ?_
      exact To.refl 0
    obtain ⟨r2, hD, h17, h10⟩ := end_to (rmC N K) inp (up (up (up r1 9 (ldA m1 33816544 8)) 18 (ldA m1 33816552 8)) 2 33816560) m1 [] 0 rfl ((q3 _ (by decide)).trans hslot)
    rw [← hP] at hD
    exact ⟨r2, m1, 65560, ((((hA.trans hB).trans h1).trans hC).trans hD).mono (by omega), by rw [hP]; rfl, h17, .inl h10⟩
  · exact ⟨r1, m1, 65792, ((hA.trans hB).trans h1).mono (by omega), by rw [hP]; rfl, q17, .inr ⟨q10, hbig⟩⟩
end
end Go.Pat
