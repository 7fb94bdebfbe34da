/- asm.Assemble: laws of what it makes (plain). -/
import Derived.Test.YtemngapfnkokiaaDoorAsmP
namespace Go.Pat
open Go Go.RowKit Go.Proofs
/-- the address that addresses for labels give to a name. -/
def layV : List (It × Int) → Nat → List UInt8 → Option Nat
  | [], _, _ => none
  | x :: r, at_, l => match layV r (wrN ((at_ : Int) + x.2)) l with
    | some v => some v
    | none => if x.1.k = 1 ∧ l = x.1.s.data.toList then some at_ else none
theorem layL_is (xs : List (It × Int)) (at_ : Nat) (F : Names) (l : List UInt8) : layL xs at_ F l = match layV xs at_ l with | some v => some v | none => F l := by
  induction xs generalizing at_ F with
  | nil => rfl
  | cons x r ih =>
    rw [layL, layV, ih]
    cases h : layV r (wrN ((at_ : Int) + x.2)) l with
    | some v => rfl
    | none =>
      simp only
      by_cases hk : x.1.k = 1
      · by_cases hl : l = x.1.s.data.toList
        · simp [hk, hl, Names.upd]
        · simp [hk, hl, Names.upd]
      · simp [hk]
theorem layV_some {xs : List (It × Int)} {at_ : Nat} {l : List UInt8} : (layV xs at_ l).isSome = true ↔ ∃ x ∈ xs, x.1.k = 1 ∧ l = x.1.s.data.toList := by
  induction xs generalizing at_ with
  | nil => simp [layV]
  | cons x r ih =>
    rw [layV]
    have ih2 := @ih (wrN ((at_ : Int) + x.2))
    cases h : layV r (wrN ((at_ : Int) + x.2)) l with
    | some v =>
      rw [h] at ih2
      obtain ⟨y, hy, h2⟩ := ih2.1 rfl
      simp only [Option.isSome_some, List.mem_cons, true_iff]
      exact ⟨y, .inr hy, h2⟩
    | none =>
      rw [h] at ih2
      simp only [List.mem_cons]
      by_cases hx : x.1.k = 1 ∧ l = x.1.s.data.toList
      · rw [if_pos hx]
        exact ⟨fun _ => ⟨x, .inl rfl, hx⟩, fun _ => rfl⟩
      · rw [if_neg hx]
        refine ⟨fun h0 => (by cases h0), ?_⟩
        rintro ⟨y, rfl | hy, h2⟩
        · exact absurd h2 hx
        · exact absurd (ih2.2 ⟨y, hy, h2⟩) (by simp)
/-- is a name a label's? -/
def isLab (xs : List It) (l : List UInt8) : Prop := ∃ x ∈ xs, x.k = 1 ∧ l = x.s.data.toList
theorem lay_zip {text : List It} {S : List Int} (h : S.length = text.length) (at_ : Nat) (l : List UInt8) : (layV (text.zip S) at_ l).isSome = true ↔ isLab text l := by
  rw [layV_some]
  constructor
  · rintro ⟨x, hx, h2⟩
    exact ⟨x.1, (List.of_mem_zip hx).1, h2⟩
  · rintro ⟨x, hx, h2⟩
    obtain ⟨i, hi, rfl⟩ := List.mem_iff_getElem.1 hx
    exact ⟨(text[i], S[i]), List.mem_iff_getElem.2 ⟨i, by simp; omega, by simp⟩, h2⟩
theorem lay_map {data : List It} (dat : Nat) (l : List UInt8) : (layV (data.map fun x => (x, leastM x)) dat l).isSome = true ↔ isLab data l := by
  rw [layV_some]
  constructor
  · rintro ⟨x, hx, h2⟩
    obtain ⟨y, hy, rfl⟩ := List.mem_map.1 hx
    exact ⟨y, hy, h2⟩
  · rintro ⟨x, hx, h2⟩
    exact ⟨_, List.mem_map.2 ⟨x, hx, rfl⟩, h2⟩
/-- addresses given anew: what was before is gone. -/
theorem layM_again {text data : List It} {S S2 : List Int} (h : S.length = text.length) (h2 : S2.length = text.length) (at_ dat : Nat) (F : Names) : layM text data S at_ dat (layM text data S2 at_ dat F) = layM text data S at_ dat F := by
  funext l
  unfold layM
  simp only [layL_is]
  cases e1 : layV (data.map fun x => (x, leastM x)) dat l with
  | some v => rfl
  | none =>
    simp only
    cases e3 : layV (text.zip S) at_ l with
    | some v => rfl
    | none =>
      simp only
      have hn : ¬ (layV (text.zip S2) at_ l).isSome = true := fun h0 => by
        have h4 := (lay_zip h at_ l).2 ((lay_zip h2 at_ l).1 h0)
        rw [e3] at h4
        cases h4
      cases e4 : layV (text.zip S2) at_ l with
      | some v => rw [e4] at hn; exact absurd rfl hn
      | none => rfl
theorem nexts_length (F : Names) (at_ : Nat) (l : List (It × Int)) : (nexts F at_ l).length = l.length := by
  induction l generalizing at_ with
  | nil => rfl
  | cons x r ih => simp [nexts, ih]
theorem nextM_length (text data : List It) (at_ dat : Nat) (F0 : Names) (S : List Int) (h : S.length = text.length) : (nextM text data at_ dat F0 S).length = text.length := by
  unfold nextM
  rw [nexts_length]
  simp
  omega
/-- how many times an item may become longer. -/
def roomI (k s : Int) : Nat := if k = 5 ∨ k = 6 then (if s = 4 then 1 else 0) else if k = 7 then (if s = 4 then 2 else if s = 8 then 1 else 0) else 0
def roomL : List (It × Int) → Nat
  | [] => 0
  | x :: r => roomI x.1.k x.2 + roomL r
theorem room_step (k s d : Int) (h : fitsM k s d = false) : (s = 4 ∨ s = 8) ∧ roomI k (s + 4) + 1 = roomI k s := by
  unfold fitsM at h
  unfold roomI
  by_cases h7 : k = 7
  · subst h7
    by_cases h4 : s = 4
    · subst h4
      refine ⟨.inl rfl, ?_⟩
      simp
    · by_cases h8 : s = 8
      · subst h8
        exact ⟨.inr rfl, by simp⟩
      · simp [h4, h8] at h
  · by_cases h5 : k = 5 ∨ k = 6
    · by_cases h4 : s = 4
      · subst h4
        exact ⟨.inl rfl, by simp [h5]⟩
      · simp [h7, h4] at h
    · rw [if_neg (fun c => h7 c.1), if_neg (fun c => h7 c.1), if_neg (fun c => h5 c.1)] at h
      cases h
theorem roomL_le (l : List (It × Int)) : roomL l ≤ 2 * l.length := by
  induction l with
  | nil => exact Nat.le_refl _
  | cons x r ih =>
    have h1 : roomI x.1.k x.2 ≤ 2 := by
      unfold roomI
      split
      · split <;> decide
      · split
        · split
          · decide
          · split <;> decide
        · decide
    rw [roomL, List.length_cons]
    omega
end Go.Pat
