/- (*Mem).Store: bytes that are written. -/
import Derived.Test.YtkgnodlhdilmoaaMemL
import Derived.RegionTactic
import Derived.BigRegion
namespace Go.Pat
open Go Go.RowKit

/-- what lay there is as it was, but for blocks of S. -/
structure KeptBut (S : Nat → Prop) (w w' : World) : Prop where
  os : w'.os = w.os
  tape : w'.tape = w.tape
  output : w'.output = w.output
  size : w.heap.size ≤ w'.heap.size
  block : ∀ k, k < w.heap.size → ¬ S k → w'.heap[k]? = w.heap[k]?

theorem KeptBut.refl (S : Nat → Prop) (w : World) : KeptBut S w w := ⟨rfl, rfl, rfl, Nat.le_refl _, fun _ _ _ => rfl⟩
theorem KeptBut.trans {S : Nat → Prop} {a b c : World} (h : KeptBut S a b) (k : KeptBut S b c) : KeptBut S a c :=
  ⟨k.os.trans h.os, k.tape.trans h.tape, k.output.trans h.output, Nat.le_trans h.size k.size, fun i hi hs => (k.block i (Nat.lt_of_lt_of_le hi h.size) hs).trans (h.block i hi hs)⟩
theorem KeptBut.of_below {S : Nat → Prop} {a b : World} (h : Below a.heap.size a b) : KeptBut S a b := ⟨h.os, h.tape, h.output, h.size, fun i hi _ => h.block i hi⟩
theorem KeptBut.drew {S : Nat → Prop} {a b : World} (h : KeptBut S a b) : KeptBut S a b.drew := ⟨h.os, h.tape, h.output, h.size, h.block⟩
theorem KeptBut.setCell {S : Nat → Prop} {a b : World} (h : KeptBut S a b) (p : Addr) (hp : S p.block) (u : Value) : KeptBut S a (b.setCell p u) :=
  ⟨h.os, h.tape, h.output, by simpa [World.setCell] using h.size, fun i hi hs => (Below.heap_setCell b p u i (fun e => hs (e ▸ hp))).trans (h.block i hi hs)⟩
theorem KeptBut.below {S : Nat → Prop} {a b : World} {B : Nat} (h : KeptBut S a b) (hB : B ≤ a.heap.size) (hS : ∀ k, S k → B ≤ k) : Below B a b :=
  ⟨h.os, h.tape, h.output, h.size, fun k hk => h.block k (by omega) (fun hs => by have := hS k hs; omega)⟩
theorem KeptBut.cell {S : Nat → Prop} {a b : World} (h : KeptBut S a b) {p : Addr} (hp : p.block < a.heap.size) (hs : ¬ S p.block) : b.cell? p = a.cell? p := World.cell?_of_block (h.block _ hp hs)

def setB (fs : List Fr) (a : Nat) (c : UInt8) : List Fr :=
  fs.map fun f => if f.base = a / 4096 * 4096 then { f with data := f.data.set (a % 4096) c } else f

theorem ents_map {g : Fr → Fr} (h1 : ∀ f, (g f).base = f.base) (h2 : ∀ f, (g f).val = f.val) (i : Nat) (fs : List Fr) : ents i (fs.map g) = ents i fs := by
  induction fs generalizing i with
  | nil => rfl
  | cons f fs ih => simp [ents, ih, Fr.ent, h1, h2]
theorem setB_blk (fs : List Fr) (a : Nat) (c : UInt8) : (setB fs a c).map (·.blk) = fs.map (·.blk) := by
  unfold setB; rw [List.map_map]; apply List.map_congr_left; intro f _; simp only [Function.comp]; split <;> rfl
theorem setB_base (fs : List Fr) (a : Nat) (c : UInt8) : (setB fs a c).map (·.base) = fs.map (·.base) := by
  unfold setB; rw [List.map_map]; apply List.map_congr_left; intro f _; simp only [Function.comp]; split <;> rfl
theorem setB_ents (fs : List Fr) (a : Nat) (c : UInt8) (i : Nat) : ents i (setB fs a c) = ents i fs := by
  unfold setB
  apply ents_map
  · intro f; split <;> rfl
  · intro f; split <;> rfl
theorem setB_length (fs : List Fr) (a : Nat) (c : UInt8) : (setB fs a c).length = fs.length := by simp [setB]

/-- the byte is written into its page's block. -/
theorem MemAt.setB {w : World} {p mb : Nat} {fs : List Fr} (h : MemAt w p mb fs) {a : Nat} {f : Fr} (hf : pageOf fs a = some f) (c : UInt8) :
    MemAt (w.setCell ⟨f.blk, a % 4096, none⟩ (.int .u8 (c.toNat : Int))) p mb (setB fs a c) := by
  have hmem : f ∈ fs := List.mem_of_find?_eq_some hf
  have hbase : f.base = a / 4096 * 4096 := by have := List.find?_some hf; simpa using this
  obtain ⟨hl, hc1, hc2, cur, hcur, hcs, hci⟩ := h.pages f hmem
  have hne : ∀ k : Nat, (∃ o, w.heap[k]? = some o ∧ ∀ cs e, o = .cells cs e (0, 0) → e ≠ 5) → k ≠ f.blk := by
    rintro k ⟨o, ho, hn⟩ rfl
    rw [ho] at hcur
    simp only [Option.some.injEq] at hcur
    exact hn _ _ hcur rfl
  have hp : p ≠ f.blk := hne p ⟨_, h.str, fun cs e he => by cases he; decide⟩
  have hm : mb ≠ f.blk := hne mb ⟨_, h.map, fun cs e he => by cases he⟩
  refine ⟨(Below.heap_setCell _ _ _ _ hp).trans h.str, ?_, ?_, by rw [setB_blk]; exact h.apart, by rw [setB_base]; exact h.keys, ?_⟩
  · rw [setB_ents, setB_length]; exact (Below.heap_setCell _ _ _ _ hm).trans h.map
  · intro g hg
    obtain ⟨g0, hg0, rfl⟩ := List.mem_map.1 hg
    by_cases hb : g0.base = a / 4096 * 4096
    · -- the page that is written
      have hgf : g0 = f := by
        have hk := h.keys
        have hi := List.pairwise_map.1 hk
        by_cases e : g0 = f
        · exact e
        · exfalso
          rcases List.getElem_of_mem hg0 with ⟨i, hi1, hi2⟩
          rcases List.getElem_of_mem hmem with ⟨j, hj1, hj2⟩
          have hij : i ≠ j := by rintro rfl; exact e (hi2.symm.trans hj2)
          have := List.pairwise_iff_getElem.1 hi
          rcases Nat.lt_or_gt_of_ne hij with hlt | hlt
          · exact this i j hi1 hj1 hlt (by rw [hi2, hj2, hb, hbase])
          · exact this j i hj1 hi1 hlt (by rw [hi2, hj2, hb, hbase])
      subst hgf
      rw [if_pos hb]
      refine ⟨by simpa using hl, hc1, hc2, cur.setIfInBounds (a % 4096) (.int .u8 (c.toNat : Int)), ?_, by simpa using hcs, ?_⟩
      · have := hcur
        simp [World.setCell, Array.getElem?_modify, this]
      · intro i hi
        simp only [List.length_set] at hi
        have hia := hci i hi
        by_cases e : a % 4096 = i
        · subst e
          have hlt : a % 4096 < cur.size := by rw [hcs]; omega
          simp [hlt]
        · simp [e, hia]
    · rw [if_neg hb]
      refine (h.pages g0 hg0).keep (Below.heap_setCell _ _ _ _ ?_)
      intro e
      have hgf : g0 ≠ f := by rintro rfl; exact hb hbase
      rcases List.getElem_of_mem hg0 with ⟨i, hi1, hi2⟩
      rcases List.getElem_of_mem hmem with ⟨j, hj1, hj2⟩
      have hij : i ≠ j := by rintro rfl; exact hgf (hi2.symm.trans hj2)
      have := List.pairwise_iff_getElem.1 (List.pairwise_map.1 h.apart)
      rcases Nat.lt_or_gt_of_ne hij with hlt | hlt
      · exact this i j hi1 hj1 hlt (by rw [hi2, hj2]; exact e)
      · exact this j i hj1 hi1 hlt (by rw [hi2, hj2]; exact e.symm)
  · intro g hg
    obtain ⟨g0, hg0, rfl⟩ := List.mem_map.1 hg
    have := h.small g0 hg0
    split <;> exact this

theorem FrIn.frozen {w : World} {f : Fr} (h : FrIn w f) (i : Nat) : w.frozen? ⟨f.blk, i, none⟩ = false := by
  obtain ⟨_, _, _, cur, h4, _⟩ := h
  simp [World.frozen?, h4]
theorem FrIn.lt {w : World} {f : Fr} (h : FrIn w f) : f.blk < w.heap.size := by
  obtain ⟨_, _, _, cur, h4, _⟩ := h
  exact lt_of_block h4
theorem FrIn.below {w w' : World} {f : Fr} (h : FrIn w f) (hb : Below w.heap.size w w') : FrIn w' f := h.keep (hb.block _ h.lt)

/-- what a store tells. -/
def storeE (fs : List Fr) (at_ : Nat) (n : Int) : Int := if wide n then askedM fs at_ n.toNat 2 else 1

/-- a number's k lowest bytes are written. -/
def storeTo (fs : List Fr) (at_ v : Nat) : Nat → List Fr
  | 0 => fs
  | k + 1 => setB (storeTo fs at_ v k) (at_ + k) (UInt8.ofNat (v / 256 ^ k))
theorem storeTo_blk (fs : List Fr) (at_ v k : Nat) : (storeTo fs at_ v k).map (·.blk) = fs.map (·.blk) := by
  induction k with
  | zero => rfl
  | succ k ih => rw [storeTo, setB_blk, ih]

theorem find_congr {α : Type} {p q : α → Bool} : ∀ (l : List α), (∀ x ∈ l, p x = q x) → l.find? p = l.find? q
  | [], _ => rfl
  | a :: l, h => by
    simp only [List.find?_cons, h a (.head _), find_congr l (fun x hx => h x (.tail _ hx))]
theorem pageOf_setB (fs : List Fr) (a b : Nat) (c : UInt8) : pageOf (setB fs a c) b = (pageOf fs b).map fun f => if f.base = a / 4096 * 4096 then { f with data := f.data.set (a % 4096) c } else f := by
  unfold pageOf frAt setB
  rw [List.find?_map]
  congr 1
  apply find_congr
  intro f _
  simp only [Function.comp]
  split <;> rfl
theorem pageOf_store {fs : List Fr} {b : Nat} {f : Fr} (h : pageOf fs b = some f) (at_ v k : Nat) : ∃ g, pageOf (storeTo fs at_ v k) b = some g ∧ g.blk = f.blk ∧ g.perm = f.perm ∧ g.cap = f.cap := by
  induction k with
  | zero => exact ⟨f, h, rfl, rfl, rfl⟩
  | succ k ih =>
    obtain ⟨g, hg, h1, h2, h3⟩ := ih
    refine ⟨_, by rw [storeTo, pageOf_setB, hg]; rfl, ?_⟩
    dsimp only
    split <;> exact ⟨h1, h2, h3⟩
end Go.Pat
namespace Go.Proofs
open Go Go.RowKit Go.Pat

set_option maxHeartbeats 1000000 in
theorem Store_any (w : World) (p mb : Nat) (fs : List Fr) (hM : MemAt w p mb fs) (at_ v k : Nat) (hat : at_ < 18446744073709551616) (hw : wide k = true) (hk : k ≤ 8) (hv : v < 18446744073709551616) (h0 : askedM fs at_ k 2 = 0) :
    Calls Try.prog 48 #[.pointer (some ⟨p, 0, none⟩), .int .u64 at_, .int .i64 k, .int .u64 v] w fun e w' =>
      e = .returned (.int .i64 0) ∧ MemAt w' p mb (storeTo fs at_ v k) ∧ KeptBut (fun b => b ∈ fs.map (·.blk)) w w' := by
  obtain ⟨z1, z2, z3⟩ := asked_zero h0
  have h0' : (askedM fs at_ k 2 != 0) = false := by simp [h0]
  have H0 := Lib.hid h0
  clear h0
  go_enter Try.func48, Try.ntmps48
  go_wp2_with (first | (go_at_call 57; refine (width_all _ _).mono ?_; rw [hw]; rintro e w' ⟨rfl, rfl⟩) | (go_at_call 58; refine (asked_all _ p mb fs hM at_ k 2 hat (by omega)).mono ?_; rintro e w' ⟨rfl, hb⟩))
  have hM1 := hM.below hM.lt hb
  have hK1 : KeptBut (fun b => b ∈ fs.map (·.blk)) w w' := .of_below hb
  clear hb
  go_loopw [25] (fun i wr => ∃ j : Nat, j ≤ k ∧ i = .int .i64 j ∧ MemAt wr p mb (storeTo fs at_ v j) ∧ KeptBut (fun b => b ∈ fs.map (·.blk)) w wr) (fun i _ => k - (intOf i).toNat)
  case atStart => exact ⟨0, by omega, rfl, hM1, hK1⟩
  case round =>
    obtain ⟨j, hj, rfl, hMj, hKj⟩ := hrel
    clear hM1 hK1
    by_cases hlt : j < k
    · have hd3 : decide ((j : Int) < (k : Int)) = true := by simp; omega
      obtain ⟨f0, hf0, _⟩ := z3 j hlt
      obtain ⟨f, hf, hfb0, hx1, hx2⟩ := pageOf_store hf0 at_ v j
      have hS : f.blk ∈ fs.map (·.blk) := by rw [hfb0]; exact List.mem_map.2 ⟨f0, List.mem_of_find?_eq_some hf0, rfl⟩
      clear hfb0 hx1 hx2
      have hF : FrIn wr f := hMj.pages f (List.mem_of_find?_eq_some hf)
      go_wp2_with (go_at_call 76; refine (page_hit _ p mb _ hMj (at_ + j) (by omega) f hf).mono ?_; rintro e w2 ⟨rfl, hb2⟩)
      have hF2 := fun o => hF.below (hb2.alloc hb2.size o)
      have hl2 : (at_ + j) % 4096 < f.data.length := by rw [hF.1]; omega
      have hcl := fun o => (hF2 o).cell _ hl2
      have hfz := fun o => (hF2 o).frozen ((at_ + j) % 4096)
      have hv2 : (v : Int) / 2 ^ (8 * j) % 256 = ((UInt8.ofNat (v / 256 ^ j)).toNat : Int) := by rw [UInt8.toNat_ofNat', pow_256, Int.natCast_emod, Int.natCast_ediv, Int.natCast_pow]; rfl
      have HV := Lib.hid hv2
      clear hv2
      go_region
      go_wp2
      go_roundw
      case rel =>
        refine ⟨j + 1, by omega, by go_num, ?_, ?_⟩
        · rw [HV.out]
          exact (((hMj.below hMj.lt hb2).below (hMj.below hMj.lt hb2).lt ((Below.refl _ _).alloc (Nat.le_refl _) _)).setB hf _).keep rfl rfl (fun _ _ => rfl)
        · exact ((hKj.trans (.of_below (hb2.alloc hb2.size _))).setCell _ hS _).drew
      case measure => simp [intOf]; omega
    · have hd3 : decide ((j : Int) < (k : Int)) = false := by simp; omega
      obtain rfl : j = k := by omega
      go_wp2
      go_ret
      exact ⟨rfl, hMj, hKj⟩

set_option maxHeartbeats 1000000 in
theorem Store_err (w : World) (p mb : Nat) (fs : List Fr) (hM : MemAt w p mb fs) (at_ : Nat) (n v : Int) (hat : at_ < 18446744073709551616) (h : storeE fs at_ n ≠ 0) :
    Calls Try.prog 48 #[.pointer (some ⟨p, 0, none⟩), .int .u64 at_, .int .i64 n, .int .u64 v] w fun e w' =>
      e = .returned (.int .i64 (storeE fs at_ n)) ∧ Below w.heap.size w w' := by
  rcases (by unfold storeE at h; cases hw : wide n <;> simp_all : wide n = false ∨ wide n = true ∧ askedM fs at_ n.toNat 2 ≠ 0) with hw | ⟨hw, h0⟩
  · have hfin : storeE fs at_ n = 1 := by simp [storeE, hw]
    clear h
    have HF := Lib.hid hfin
    clear hfin
    go_enter Try.func48, Try.ntmps48
    go_wp2_with (go_at_call 57; refine (width_all _ _).mono ?_; rw [hw]; rintro e w' ⟨rfl, rfl⟩)
    go_ret
    exact ⟨by rw [HF.out]; rfl, Below.refl _ _⟩
  · obtain ⟨k, rfl, hk⟩ : ∃ k : Nat, n = k ∧ (k ≤ 8) := by
      simp [wide] at hw
      exact ⟨n.toNat, by omega, by omega⟩
    have hfin : storeE fs at_ k = askedM fs at_ k 2 := by simp [storeE, hw]
    clear h
    have HF := Lib.hid hfin
    have h0' : (askedM fs at_ k 2 != 0) = true := by simpa using h0
    clear hfin h0
    go_enter Try.func48, Try.ntmps48
    go_wp2_with (first | (go_at_call 57; refine (width_all _ _).mono ?_; rw [hw]; rintro e w' ⟨rfl, rfl⟩) | (go_at_call 58; refine (asked_all _ p mb fs hM at_ k 2 hat (by omega)).mono ?_; rintro e w' ⟨rfl, hb⟩))
    go_ret
    exact ⟨by rw [HF.out]; rfl, hb⟩
end Go.Proofs
