/- Runs of machines that differ only in where their pages lie; how far a run goes; register 0 stays 0. -/
import Derived.Test.YtemngapfnkokiaaDoorRunM
namespace Go.Pat
open Go Go.RowKit
/-- a page, wherever it lies. -/
def Fr.cl (f : Fr) : Fr := { f with blk := 0, cap := 0 }
def Ms.cl (s : Ms) : Ms := { s with fs := s.fs.map Fr.cl }
def clP (r : Int × Ms) : Int × Ms := (r.1, r.2.cl)
theorem clP_ite {c : Prop} [Decidable c] {a b : Int × Ms} : clP (if c then a else b) = if c then clP a else clP b := by
  by_cases h : c
  · rw [if_pos h, if_pos h]
  · rw [if_neg h, if_neg h]
theorem pageOf_cl (fs : List Fr) (a : Nat) : pageOf (fs.map Fr.cl) a = (pageOf fs a).map Fr.cl := by
  unfold pageOf frAt
  rw [List.find?_map]
  rfl
theorem askTo_cl (fs : List Fr) (at_ : Nat) (perm : Int) (n : Nat) : askTo (fs.map Fr.cl) at_ perm n = askTo fs at_ perm n := by
  induction n with
  | zero => rfl
  | succ n ih =>
    simp only [askTo, ih, pageOf_cl]
    cases pageOf fs (at_ + n) <;> rfl
theorem askedM_cl (fs : List Fr) (at_ n : Nat) (perm : Int) : askedM (fs.map Fr.cl) at_ n perm = askedM fs at_ n perm := by
  unfold askedM
  rw [askTo_cl]
theorem byteM_cl (fs : List Fr) (a : Nat) : byteM (fs.map Fr.cl) a = byteM fs a := by
  unfold byteM
  rw [pageOf_cl]
  cases pageOf fs a <;> rfl
theorem numM_cl (fs : List Fr) (a k : Nat) : numM (fs.map Fr.cl) a k = numM fs a k := by
  induction k with
  | zero => rfl
  | succ k ih => simp only [numM, ih, byteM_cl]
theorem loadM_cl (fs : List Fr) (a : Nat) (n : Int) : loadM (fs.map Fr.cl) a n = loadM fs a n := by
  simp only [loadM, askedM_cl, numM_cl]
theorem fetchM_cl (fs : List Fr) (a : Nat) : fetchM (fs.map Fr.cl) a = fetchM fs a := by
  simp only [fetchM, askedM_cl, numM_cl]
theorem storeE_cl (fs : List Fr) (a : Nat) (n : Int) : storeE (fs.map Fr.cl) a n = storeE fs a n := by
  simp only [storeE, askedM_cl]
def gB (a : Nat) (c : UInt8) (f : Fr) : Fr := if f.base = a / 4096 * 4096 then { f with data := f.data.set (a % 4096) c } else f
theorem gB_hit {f : Fr} {a : Nat} (h : f.base = a / 4096 * 4096) (c : UInt8) : gB a c f = { f with data := f.data.set (a % 4096) c } := if_pos h
theorem gB_miss {f : Fr} {a : Nat} (h : ¬ f.base = a / 4096 * 4096) (c : UInt8) : gB a c f = f := if_neg h
theorem gB_cl (a : Nat) (c : UInt8) (f : Fr) : gB a c f.cl = (gB a c f).cl := by
  by_cases h : f.base = a / 4096 * 4096
  · rw [gB_hit h, gB_hit (f := f.cl) h]; rfl
  · rw [gB_miss h, gB_miss (f := f.cl) h]
theorem setB_cl (fs : List Fr) (a : Nat) (c : UInt8) : setB (fs.map Fr.cl) a c = (setB fs a c).map Fr.cl := by
  show (fs.map Fr.cl).map (gB a c) = (fs.map (gB a c)).map Fr.cl
  rw [List.map_map, List.map_map]
  exact List.map_congr_left fun f _ => gB_cl a c f
theorem storeTo_cl (fs : List Fr) (a v k : Nat) : storeTo (fs.map Fr.cl) a v k = (storeTo fs a v k).map Fr.cl := by
  induction k with
  | zero => rfl
  | succ k ih => rw [storeTo, ih, setB_cl, storeTo]
theorem storeM_cl (fs : List Fr) (a v : Nat) (n : Int) : storeM (fs.map Fr.cl) a v n = (storeM fs a v n).map Fr.cl := by
  unfold storeM
  rw [storeE_cl, storeTo_cl]
  split <;> rfl
theorem callM_cl (s : Ms) : callM s.cl = clP (callM s) := by
  unfold callM
  simp only [clP_ite]
  rfl
theorem execM_cl (i : Ins) (s : Ms) : execM i s.cl = clP (execM i s) := by
  have e1 : s.cl.c = s.c := rfl
  have e2 : s.cl.fs = s.fs.map Fr.cl := rfl
  have e3 : nextPc s.cl = nextPc s := rfl
  have e4 : ∀ r : Int × Ms, (clP r).1 = r.1 := fun _ => rfl
  have e5 : ∀ r : Int × Ms, (clP r).2.c = r.2.c := fun _ => rfl
  unfold execM
  simp only [clP_ite, callM_cl, e1, e2, e3, e4, e5, loadM_cl, storeE_cl, storeM_cl]
  rfl
theorem innerM_cl (s : Ms) : innerM s.cl = clP (innerM s) := by
  have e1 : s.cl.c = s.c := rfl
  have e2 : s.cl.fs = s.fs.map Fr.cl := rfl
  unfold innerM
  simp only [clP_ite, e1, e2, fetchM_cl]
  cases h : decR (fetchM s.fs s.c.pc).1 with
  | none => rfl
  | some i =>
    simp only [execM_cl]
    rfl
theorem stepM_cl (s : Ms) : stepM s.cl = clP (stepM s) := by
  have e1 : s.cl.c = s.c := rfl
  have e4 : ∀ r : Int × Ms, (clP r).1 = r.1 := fun _ => rfl
  unfold stepM
  simp only [clP_ite, e1, innerM_cl, e4]
  rfl
theorem runM_cl : ∀ (n : Nat) (s : Ms), runM n s.cl = ((runM n s).1, (runM n s).2.cl)
  | 0, _ => rfl
  | n + 1, s => by
    have e1 : s.cl.c = s.c := rfl
    have e2 : (clP (stepM s)).2 = (stepM s).2.cl := rfl
    have e3 : (clP (stepM s)).1 = (stepM s).1 := rfl
    rw [runM, runM, e1, stepM_cl, e2, e3, runM_cl n]
    by_cases h : overB s.c = true
    · rw [if_pos h, if_pos h]
    · rw [if_neg h, if_neg h]
      by_cases h1 : (stepM s).1 = 0
      · rw [if_pos h1, if_pos h1]
      · rw [if_neg h1, if_neg h1]
theorem pg_cl (fs : List Fr) : (fs.map Fr.cl).map Fr.pg = fs.map Fr.pg := by rw [List.map_map]; rfl
theorem cl_of_pg {fs gs : List Fr} (h : fs.map Fr.pg = gs.map Fr.pg) : fs.map Fr.cl = gs.map Fr.cl := by
  have e : ∀ l : List Fr, l.map Fr.cl = (l.map Fr.pg).map (fun p => (⟨p.base, p.perm, 0, 0, p.data⟩ : Fr)) := fun l => by rw [List.map_map]; rfl
  rw [e, e, h]
/-- machines that are alike run alike. -/
theorem run_same {c : Mc} {fs gs : List Fr} {inp : List UInt8} (h : fs.map Fr.pg = gs.map Fr.pg) (n : Nat) :
    (runM n ⟨c, fs, inp⟩).1 = (runM n ⟨c, gs, inp⟩).1 ∧ (runM n ⟨c, fs, inp⟩).2.c = (runM n ⟨c, gs, inp⟩).2.c ∧ (runM n ⟨c, fs, inp⟩).2.fs.map Fr.pg = (runM n ⟨c, gs, inp⟩).2.fs.map Fr.pg := by
  have h1 := runM_cl n ⟨c, fs, inp⟩
  have h2 := runM_cl n ⟨c, gs, inp⟩
  have h3 : (⟨c, fs, inp⟩ : Ms).cl = (⟨c, gs, inp⟩ : Ms).cl := by simp only [Ms.cl, cl_of_pg h]
  rw [h3, h2] at h1
  have e := Prod.mk.inj h1
  refine ⟨e.1.symm, (congrArg Ms.c e.2).symm, ?_⟩
  rw [← pg_cl, ← pg_cl (runM n ⟨c, gs, inp⟩).2.fs]
  exact congrArg (fun s : Ms => s.fs.map Fr.pg) e.2.symm
theorem runM_le : ∀ (n : Nat) (s : Ms), (runM n s).1 ≤ n
  | 0, _ => Nat.le_refl _
  | n + 1, s => by
    rw [runM]
    by_cases h : overB s.c = true
    · rw [if_pos h]; omega
    · rw [if_neg h]
      by_cases h1 : (stepM s).1 = 0
      · rw [if_pos h1]
        have := runM_le n (stepM s).2
        simp only; omega
      · rw [if_neg h1]; simp only; omega
theorem runM_out : ∀ (n : Nat) (s : Ms), (runM n s).2.c.out.length ≤ s.c.out.length + n ∧ (runM n s).2.inp = s.inp
  | 0, _ => ⟨Nat.le_refl _, rfl⟩
  | n + 1, s => by
    have ha := stepM_alike s
    rw [runM]
    by_cases h : overB s.c = true
    · rw [if_pos h]; exact ⟨by simp only; omega, rfl⟩
    · rw [if_neg h]
      by_cases h1 : (stepM s).1 = 0
      · rw [if_pos h1]
        have := runM_out n (stepM s).2
        have h2 := ha.2.1
        exact ⟨by simp only; omega, this.2.trans ha.2.2⟩
      · rw [if_neg h1]
        have h2 := ha.2.1
        exact ⟨by simp only; omega, ha.2.2⟩
theorem reg0_set (l : List Nat) : (l.set 0 0).getD 0 0 = 0 := by cases l <;> rfl
theorem stepM_reg0 (s : Ms) (h : s.c.reg 0 = 0) : (stepM s).2.c.reg 0 = 0 := by
  unfold stepM
  split
  · exact h
  · split
    · exact reg0_set _
    · exact h
theorem runM_reg0 : ∀ (n : Nat) (s : Ms), s.c.reg 0 = 0 → (runM n s).2.c.reg 0 = 0
  | 0, _, h => h
  | n + 1, s, h => by
    rw [runM]
    by_cases h0 : overB s.c = true
    · rw [if_pos h0]; exact h
    · rw [if_neg h0]
      by_cases h1 : (stepM s).1 = 0
      · rw [if_pos h1]; exact runM_reg0 n _ (stepM_reg0 s h)
      · rw [if_neg h1]; exact stepM_reg0 s h
end Go.Pat
