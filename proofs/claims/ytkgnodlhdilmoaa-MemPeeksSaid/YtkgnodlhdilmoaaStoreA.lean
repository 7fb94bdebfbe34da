/- (*Mem).Store at every argument; what stores leave. -/
import Derived.Test.YtkgnodlhdilmoaaMemTop
import Derived.Test.YtkgnodlhdilmoaaSame2
namespace Go.Pat
open Go Go.RowKit

/-- what a store leaves. -/
def storeM (fs : List Fr) (at_ v : Nat) (n : Int) : List Fr := if storeE fs at_ n = 0 then storeTo fs at_ v n.toNat else fs

def updP (a : Nat) (c : UInt8) (p : Pgd) : Pgd := if p.base = a / 4096 * 4096 then { p with data := p.data.set (a % 4096) c } else p
def setP (l : List Pgd) (a : Nat) (c : UInt8) : List Pgd := l.map (updP a c)
theorem updP_hit {p : Pgd} {a : Nat} (h : p.base = a / 4096 * 4096) (c : UInt8) : updP a c p = ⟨p.base, p.perm, p.data.set (a % 4096) c⟩ := if_pos h
theorem updP_miss {p : Pgd} {a : Nat} (h : ¬ p.base = a / 4096 * 4096) (c : UInt8) : updP a c p = p := if_neg h
def storeP (l : List Pgd) (at_ v : Nat) : Nat → List Pgd
  | 0 => l
  | k + 1 => setP (storeP l at_ v k) (at_ + k) (UInt8.ofNat (v / 256 ^ k))
def Fr.sh (f : Fr) : Nat × Int := (f.base, f.perm)
def Pgd.sh (f : Pgd) : Nat × Int := (f.base, f.perm)

theorem pg_setB (fs : List Fr) (a : Nat) (c : UInt8) : (setB fs a c).map Fr.pg = setP (fs.map Fr.pg) a c := by
  unfold setB setP
  rw [List.map_map, List.map_map]
  apply List.map_congr_left
  intro f _
  simp only [Function.comp]
  by_cases h : f.base = a / 4096 * 4096
  · rw [if_pos h, updP_hit (p := f.pg) h]; rfl
  · rw [if_neg h, updP_miss (p := f.pg) h]
theorem pg_storeTo (fs : List Fr) (at_ v k : Nat) : (storeTo fs at_ v k).map Fr.pg = storeP (fs.map Fr.pg) at_ v k := by
  induction k with
  | zero => rfl
  | succ k ih => rw [storeTo, pg_setB, ih, storeP]
theorem sh_setB (fs : List Fr) (a : Nat) (c : UInt8) : (setB fs a c).map Fr.sh = fs.map Fr.sh := by
  unfold setB
  rw [List.map_map]
  apply List.map_congr_left
  intro f _
  simp only [Function.comp, Fr.sh]
  split <;> rfl
theorem sh_storeTo (fs : List Fr) (at_ v k : Nat) : (storeTo fs at_ v k).map Fr.sh = fs.map Fr.sh := by
  induction k with
  | zero => rfl
  | succ k ih => rw [storeTo, sh_setB, ih]
theorem sh_storeM (fs : List Fr) (at_ v : Nat) (n : Int) : (storeM fs at_ v n).map Fr.sh = fs.map Fr.sh := by
  unfold storeM
  split
  · exact sh_storeTo _ _ _ _
  · rfl
theorem sh_pg (fs : List Fr) : fs.map Fr.sh = (fs.map Fr.pg).map Pgd.sh := by rw [List.map_map]; rfl
theorem base_sh (fs : List Fr) : fs.map (·.base) = (fs.map Fr.sh).map (·.1) := by rw [List.map_map]; rfl

theorem pageOf_sh {fs gs : List Fr} (h : fs.map Fr.sh = gs.map Fr.sh) (a : Nat) : (pageOf fs a).map Fr.sh = (pageOf gs a).map Fr.sh := by
  unfold pageOf frAt
  have e : ∀ l : List Fr, (l.find? (fun f => f.base == a / 4096 * 4096)).map Fr.sh = (l.map Fr.sh).find? (fun s => s.1 == a / 4096 * 4096) := fun l => by
    rw [List.find?_map]; rfl
  rw [e, e, h]
theorem askTo_sh {fs gs : List Fr} (h : fs.map Fr.sh = gs.map Fr.sh) (at_ : Nat) (perm : Int) (n : Nat) : askTo fs at_ perm n = askTo gs at_ perm n := by
  induction n with
  | zero => rfl
  | succ n ih =>
    have hp := pageOf_sh h (at_ + n)
    simp only [askTo, ih]
    cases h1 : pageOf fs (at_ + n) with
    | none =>
      rw [h1] at hp
      cases h2 : pageOf gs (at_ + n) with
      | none => rfl
      | some g => rw [h2] at hp; cases hp
    | some f =>
      rw [h1] at hp
      cases h2 : pageOf gs (at_ + n) with
      | none => rw [h2] at hp; cases hp
      | some g =>
        rw [h2] at hp
        have : f.perm = g.perm := congrArg Prod.snd (Option.some.inj hp)
        simp only [this]
theorem askedM_sh {fs gs : List Fr} (h : fs.map Fr.sh = gs.map Fr.sh) (at_ n : Nat) (perm : Int) : askedM fs at_ n perm = askedM gs at_ n perm := by
  unfold askedM
  rw [askTo_sh h]
theorem storeE_sh {fs gs : List Fr} (h : fs.map Fr.sh = gs.map Fr.sh) (at_ : Nat) (n : Int) : storeE fs at_ n = storeE gs at_ n := by
  unfold storeE
  rw [askedM_sh h]

theorem setP_comm (l : List Pgd) {a b : Nat} (h : a ≠ b) (c d : UInt8) : setP (setP l a c) b d = setP (setP l b d) a c := by
  unfold setP
  rw [List.map_map, List.map_map]
  apply List.map_congr_left
  intro p _
  simp only [Function.comp]
  by_cases h1 : p.base = a / 4096 * 4096
  · by_cases h2 : p.base = b / 4096 * 4096
    · rw [updP_hit h1, updP_hit h2, updP_hit (p := ⟨p.base, p.perm, p.data.set (a % 4096) c⟩) h2, updP_hit (p := ⟨p.base, p.perm, p.data.set (b % 4096) d⟩) h1]
      simp only
      rw [List.set_comm _ _ (by omega)]
    · rw [updP_hit h1, updP_miss h2, updP_miss (p := ⟨p.base, p.perm, p.data.set (a % 4096) c⟩) h2, updP_hit h1]
  · by_cases h2 : p.base = b / 4096 * 4096
    · rw [updP_miss h1, updP_hit h2, updP_miss (p := ⟨p.base, p.perm, p.data.set (b % 4096) d⟩) h1]
    · rw [updP_miss h1, updP_miss h2, updP_miss h1]
theorem storeP_setP (l : List Pgd) (b : Nat) (d : UInt8) (at_ v k : Nat) (h : ∀ i, i < k → at_ + i ≠ b) : storeP (setP l b d) at_ v k = setP (storeP l at_ v k) b d := by
  induction k with
  | zero => rfl
  | succ k ih => rw [storeP, ih (fun i hi => h i (by omega)), storeP, setP_comm _ (Ne.symm (h k (by omega)))]
theorem storeP_comm (l : List Pgd) (a v n b u m : Nat) (h : a + n ≤ b ∨ b + m ≤ a) : storeP (storeP l a v n) b u m = storeP (storeP l b u m) a v n := by
  induction m with
  | zero => rfl
  | succ m ih =>
    rw [storeP, ih (by omega)]
    conv => rhs; rw [storeP]
    rw [storeP_setP _ _ _ _ _ _ (fun i hi => by omega)]

theorem rises_sh {fs : List Fr} {gs : List Fr} (h : fs.map Fr.sh = gs.map Fr.sh) (hr : gs.Pairwise (fun a b => a.base < b.base)) : fs.Pairwise (fun a b => a.base < b.base) := by
  have h1 : (gs.map Fr.sh).Pairwise (fun a b => a.1 < b.1) := List.pairwise_map.2 hr
  rw [← h, List.pairwise_map] at h1
  exact h1

/-- two stores that do not meet may change places. -/
theorem store_two {fs gs : List Fr} {l : List Pgd} (hf : fs.map Fr.pg = l) (hg : gs.map Fr.pg = l) (hok : PsOK l) (a v b u : Nat) (n : Int) (h : a + n.toNat ≤ b ∨ b + n.toNat ≤ a) :
    storeE fs a n = storeE (storeM gs b u n) a n ∧ storeE (storeM fs a v n) b n = storeE gs b n ∧ (sortF (storeM (storeM fs a v n) b u n)).map Fr.pg = (sortF (storeM (storeM gs b u n) a v n)).map Fr.pg := by
  have hs : fs.map Fr.sh = gs.map Fr.sh := by rw [sh_pg, sh_pg, hf, hg]
  have e1 : storeE fs a n = storeE (storeM gs b u n) a n := storeE_sh (hs.trans (sh_storeM gs b u n).symm) a n
  have e2 : storeE (storeM fs a v n) b n = storeE gs b n := storeE_sh ((sh_storeM fs a v n).trans hs) b n
  refine ⟨e1, e2, ?_⟩
  have r1 : (storeM (storeM fs a v n) b u n).Pairwise (fun a b => a.base < b.base) := rises_sh ((sh_storeM _ _ _ _).trans (sh_storeM _ _ _ _)) (fs_rises hf hok)
  have r2 : (storeM (storeM gs b u n) a v n).Pairwise (fun a b => a.base < b.base) := rises_sh ((sh_storeM _ _ _ _).trans (sh_storeM _ _ _ _)) (fs_rises hg hok)
  rw [sortF_of (r1.imp Nat.le_of_lt), sortF_of (r2.imp Nat.le_of_lt)]
  have e3 : storeE fs b n = storeE gs b n := storeE_sh hs b n
  have e4 : storeE gs a n = storeE fs a n := storeE_sh hs.symm a n
  have e5 : storeE (storeM gs b u n) a n = storeE fs a n := e1.symm
  unfold storeM
  unfold storeM at e2 e5
  by_cases h1 : storeE fs a n = 0
  · by_cases h2 : storeE gs b n = 0
    · rw [if_pos h1] at e2 ⊢
      rw [if_pos h2] at e5 ⊢
      rw [if_pos (e2.trans h2), if_pos (e5.trans h1)]
      rw [pg_storeTo, pg_storeTo, pg_storeTo, pg_storeTo, hf, hg]
      exact storeP_comm l a v n.toNat b u n.toNat h
    · rw [if_pos h1] at e2 ⊢
      rw [if_neg h2]
      rw [if_neg (by rw [e2]; exact h2), if_pos (by rw [e4]; exact h1), pg_storeTo, pg_storeTo, hf, hg]
  · by_cases h2 : storeE gs b n = 0
    · rw [if_neg h1]
      rw [if_pos h2] at e5 ⊢
      rw [if_pos (by rw [e3]; exact h2), if_neg (by rw [e5]; exact h1), pg_storeTo, pg_storeTo, hf, hg]
    · rw [if_neg h1, if_neg h2, if_neg (by rw [e3]; exact h2), if_neg (by rw [e4]; exact h1), hf, hg]
end Go.Pat
namespace Go.Proofs
open Go Go.RowKit Go.Pat

theorem Store_arg (w : World) (p : Value) (at_ v : Nat) (n : Int) (hw : wide n = false) :
    Calls Try.prog 48 #[p, .int .u64 at_, .int .i64 n, .int .u64 v] w fun e w' => e = .returned (.int .i64 1) ∧ w = w' := by
  go_enter Try.func48, Try.ntmps48
  go_wp2_with (go_at_call 57; refine (width_all _ _).mono ?_; rw [hw]; rintro e w' ⟨rfl, rfl⟩)
  go_ret
  exact ⟨rfl, rfl⟩
theorem Store_all (w : World) (p mb : Nat) (fs : List Fr) (hM : MemAt w p mb fs) (at_ v : Nat) (n : Int) (hat : at_ < 18446744073709551616) (hv : v < 18446744073709551616) :
    Calls Try.prog 48 #[.pointer (some ⟨p, 0, none⟩), .int .u64 at_, .int .i64 n, .int .u64 v] w fun e w' =>
      e = .returned (.int .i64 (storeE fs at_ n)) ∧ MemAt w' p mb (storeM fs at_ v n) ∧ KeptBut (fun b => b ∈ fs.map (·.blk)) w w' := by
  cases hw : wide n with
  | false =>
    have e1 : storeE fs at_ n = 1 := by simp [storeE, hw]
    refine (Store_arg w _ at_ v n hw).mono ?_
    rintro e w' ⟨rfl, rfl⟩
    exact ⟨by rw [e1], by rw [storeM, e1, if_neg (by decide)]; exact hM, .refl _ _⟩
  | true =>
    obtain ⟨k, rfl, hk⟩ : ∃ k : Nat, n = k ∧ (k ≤ 8) := by
      simp [wide] at hw
      exact ⟨n.toNat, by omega, by omega⟩
    have e1 : storeE fs at_ k = askedM fs at_ k 2 := by simp [storeE, hw]
    by_cases h0 : askedM fs at_ k 2 = 0
    · refine (Store_any w p mb fs hM at_ v k hat hw hk hv h0).mono ?_
      rintro e w' ⟨rfl, h1, h2⟩
      exact ⟨by rw [e1, h0], by rw [storeM, e1, if_pos h0]; exact h1, h2⟩
    · refine (Store_err w p mb fs hM at_ k v hat (by rw [e1]; exact h0)).mono ?_
      rintro e w' ⟨rfl, hB⟩
      exact ⟨rfl, by rw [storeM, e1, if_neg h0]; exact hM.below hM.lt hB, .of_below hB⟩
end Go.Proofs
