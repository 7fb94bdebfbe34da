/- (*Mem).Store: bytes that are written. -/
import Derived.Test.YtlhenglopnipaaaGreatDoorMemBase
import Derived.RegionTactic
import Derived.BigRegion
import Derived.WalkKit
import Derived.Maps.AppendAt
import Derived.Deep.AppendLies
import Derived.WalkSpells
import Derived.Deep.QuietTactic
import Derived.BigQuiet
import Derived.Deep.RegionHeld3
import Derived.Deep.DrawnRows
namespace Go.Pat
open Go Go.RowKit

/-- what lay there is as it was, but for blocks of S. -/
structure KeptBut (S : Nat → Prop) (w w' : World) : Prop where
  os : w'.os = w.os
  tape : w'.tape = w.tape
  output : w'.output = w.output
  size : w.heap.size ≤ w'.heap.size
  block : ∀ k, k < w.heap.size → ¬ S k → w'.heap[k]? = w.heap[k]?

theorem KeptBut.refl (S : Nat → Prop) (w : World) : KeptBut S w w := ⟨rfl, rfl, rfl, Nat.le_refl _, fun _ _ _ => rfl⟩
theorem KeptBut.trans {S : Nat → Prop} {a b c : World} (h : KeptBut S a b) (k : KeptBut S b c) : KeptBut S a c :=
  ⟨k.os.trans h.os, k.tape.trans h.tape, k.output.trans h.output, Nat.le_trans h.size k.size, fun i hi hs => (k.block i (Nat.lt_of_lt_of_le hi h.size) hs).trans (h.block i hi hs)⟩
theorem KeptBut.of_below {S : Nat → Prop} {a b : World} (h : Below a.heap.size a b) : KeptBut S a b := ⟨h.os, h.tape, h.output, h.size, fun i hi _ => h.block i hi⟩
theorem KeptBut.drew {S : Nat → Prop} {a b : World} (h : KeptBut S a b) : KeptBut S a b.drew := ⟨h.os, h.tape, h.output, h.size, h.block⟩
theorem KeptBut.setCell {S : Nat → Prop} {a b : World} (h : KeptBut S a b) (p : Addr) (hp : S p.block) (u : Value) : KeptBut S a (b.setCell p u) :=
  ⟨h.os, h.tape, h.output, by simpa [World.setCell] using h.size, fun i hi hs => (Below.heap_setCell b p u i (fun e => hs (e ▸ hp))).trans (h.block i hi hs)⟩
theorem KeptBut.below {S : Nat → Prop} {a b : World} {B : Nat} (h : KeptBut S a b) (hB : B ≤ a.heap.size) (hS : ∀ k, S k → B ≤ k) : Below B a b :=
  ⟨h.os, h.tape, h.output, h.size, fun k hk => h.block k (by omega) (fun hs => by have := hS k hs; omega)⟩
theorem KeptBut.cell {S : Nat → Prop} {a b : World} (h : KeptBut S a b) {p : Addr} (hp : p.block < a.heap.size) (hs : ¬ S p.block) : b.cell? p = a.cell? p := World.cell?_of_block (h.block _ hp hs)

def setB (fs : List Fr) (a : Nat) (c : UInt8) : List Fr :=
  fs.map fun f => if f.base = a / 4096 * 4096 then { f with data := f.data.set (a % 4096) c } else f

theorem ents_map {g : Fr → Fr} (h1 : ∀ f, (g f).base = f.base) (h2 : ∀ f, (g f).val = f.val) (i : Nat) (fs : List Fr) : ents i (fs.map g) = ents i fs := by
  induction fs generalizing i with
  | nil => rfl
  | cons f fs ih => simp [ents, ih, Fr.ent, h1, h2]
theorem setB_blk (fs : List Fr) (a : Nat) (c : UInt8) : (setB fs a c).map (·.blk) = fs.map (·.blk) := by
  unfold setB; rw [List.map_map]; apply List.map_congr_left; intro f _; simp only [Function.comp]; split <;> rfl
theorem setB_base (fs : List Fr) (a : Nat) (c : UInt8) : (setB fs a c).map (·.base) = fs.map (·.base) := by
  unfold setB; rw [List.map_map]; apply List.map_congr_left; intro f _; simp only [Function.comp]; split <;> rfl
theorem setB_ents (fs : List Fr) (a : Nat) (c : UInt8) (i : Nat) : ents i (setB fs a c) = ents i fs := by
  unfold setB
  apply ents_map
  · intro f; split <;> rfl
  · intro f; split <;> rfl
theorem setB_length (fs : List Fr) (a : Nat) (c : UInt8) : (setB fs a c).length = fs.length := by simp [setB]

/-- the byte is written into its page's block. -/
theorem MemAt.setB {w : World} {p mb : Nat} {fs : List Fr} (h : MemAt w p mb fs) {a : Nat} {f : Fr} (hf : pageOf fs a = some f) (c : UInt8) :
    MemAt (w.setCell ⟨f.blk, a % 4096, none⟩ (.int .u8 (c.toNat : Int))) p mb (setB fs a c) := by
  have hmem : f ∈ fs := List.mem_of_find?_eq_some hf
  have hbase : f.base = a / 4096 * 4096 := by have := List.find?_some hf; simpa using this
  obtain ⟨hl, hc1, hc2, cur, hcur, hcs, hci⟩ := h.pages f hmem
  have hne : ∀ k : Nat, (∃ o, w.heap[k]? = some o ∧ ∀ cs e, o = .cells cs e (0, 0) → e ≠ 5) → k ≠ f.blk := by
    rintro k ⟨o, ho, hn⟩ rfl
    rw [ho] at hcur
    simp only [Option.some.injEq] at hcur
    exact hn _ _ hcur rfl
  have hp : p ≠ f.blk := hne p ⟨_, h.str, fun cs e he => by cases he; decide⟩
  have hm : mb ≠ f.blk := hne mb ⟨_, h.map, fun cs e he => by cases he⟩
  refine ⟨(Below.heap_setCell _ _ _ _ hp).trans h.str, ?_, ?_, by rw [setB_blk]; exact h.apart, by rw [setB_base]; exact h.keys, ?_⟩
  · rw [setB_ents, setB_length]; exact (Below.heap_setCell _ _ _ _ hm).trans h.map
  · intro g hg
    obtain ⟨g0, hg0, rfl⟩ := List.mem_map.1 hg
    by_cases hb : g0.base = a / 4096 * 4096
    · -- the page that is written
      have hgf : g0 = f := by
        have hk := h.keys
        have hi := List.pairwise_map.1 hk
        by_cases e : g0 = f
        · exact e
        · exfalso
          rcases List.getElem_of_mem hg0 with ⟨i, hi1, hi2⟩
          rcases List.getElem_of_mem hmem with ⟨j, hj1, hj2⟩
          have hij : i ≠ j := by rintro rfl; exact e (hi2.symm.trans hj2)
          have := List.pairwise_iff_getElem.1 hi
          rcases Nat.lt_or_gt_of_ne hij with hlt | hlt
          · exact this i j hi1 hj1 hlt (by rw [hi2, hj2, hb, hbase])
          · exact this j i hj1 hi1 hlt (by rw [hi2, hj2, hb, hbase])
      subst hgf
      rw [if_pos hb]
      refine ⟨by simpa using hl, hc1, hc2, cur.setIfInBounds (a % 4096) (.int .u8 (c.toNat : Int)), ?_, by simpa using hcs, ?_⟩
      · have := hcur
        simp [World.setCell, Array.getElem?_modify, this]
      · intro i hi
        simp only [List.length_set] at hi
        have hia := hci i hi
        by_cases e : a % 4096 = i
        · subst e
          have hlt : a % 4096 < cur.size := by rw [hcs]; omega
          simp [hlt]
        · simp [e, hia]
    · rw [if_neg hb]
      refine (h.pages g0 hg0).keep (Below.heap_setCell _ _ _ _ ?_)
      intro e
      have hgf : g0 ≠ f := by rintro rfl; exact hb hbase
      rcases List.getElem_of_mem hg0 with ⟨i, hi1, hi2⟩
      rcases List.getElem_of_mem hmem with ⟨j, hj1, hj2⟩
      have hij : i ≠ j := by rintro rfl; exact hgf (hi2.symm.trans hj2)
      have := List.pairwise_iff_getElem.1 (List.pairwise_map.1 h.apart)
      rcases Nat.lt_or_gt_of_ne hij with hlt | hlt
      · exact this i j hi1 hj1 hlt (by rw [hi2, hj2]; exact e)
      · exact this j i hj1 hi1 hlt (by rw [hi2, hj2]; exact e.symm)
  · intro g hg
    obtain ⟨g0, hg0, rfl⟩ := List.mem_map.1 hg
    have := h.small g0 hg0
    split <;> exact this

theorem FrIn.frozen {w : World} {f : Fr} (h : FrIn w f) (i : Nat) : w.frozen? ⟨f.blk, i, none⟩ = false := by
  obtain ⟨_, _, _, cur, h4, _⟩ := h
  simp [World.frozen?, h4]
theorem FrIn.lt {w : World} {f : Fr} (h : FrIn w f) : f.blk < w.heap.size := by
  obtain ⟨_, _, _, cur, h4, _⟩ := h
  exact lt_of_block h4
theorem FrIn.below {w w' : World} {f : Fr} (h : FrIn w f) (hb : Below w.heap.size w w') : FrIn w' f := h.keep (hb.block _ h.lt)

/-- what a store tells. -/
def storeE (fs : List Fr) (at_ : Nat) (n : Int) : Int := if wide n then askedM fs at_ n.toNat 2 else 1

/-- a number's k lowest bytes are written. -/
def storeTo (fs : List Fr) (at_ v : Nat) : Nat → List Fr
  | 0 => fs
  | k + 1 => setB (storeTo fs at_ v k) (at_ + k) (UInt8.ofNat (v / 256 ^ k))
theorem storeTo_blk (fs : List Fr) (at_ v k : Nat) : (storeTo fs at_ v k).map (·.blk) = fs.map (·.blk) := by
  induction k with
  | zero => rfl
  | succ k ih => rw [storeTo, setB_blk, ih]

theorem find_congr {α : Type} {p q : α → Bool} : ∀ (l : List α), (∀ x ∈ l, p x = q x) → l.find? p = l.find? q
  | [], _ => rfl
  | a :: l, h => by
    simp only [List.find?_cons, h a (.head _), find_congr l (fun x hx => h x (.tail _ hx))]
theorem pageOf_setB (fs : List Fr) (a b : Nat) (c : UInt8) : pageOf (setB fs a c) b = (pageOf fs b).map fun f => if f.base = a / 4096 * 4096 then { f with data := f.data.set (a % 4096) c } else f := by
  unfold pageOf frAt setB
  rw [List.find?_map]
  congr 1
  apply find_congr
  intro f _
  simp only [Function.comp]
  split <;> rfl
theorem pageOf_store {fs : List Fr} {b : Nat} {f : Fr} (h : pageOf fs b = some f) (at_ v k : Nat) : ∃ g, pageOf (storeTo fs at_ v k) b = some g ∧ g.blk = f.blk ∧ g.perm = f.perm ∧ g.cap = f.cap := by
  induction k with
  | zero => exact ⟨f, h, rfl, rfl, rfl⟩
  | succ k ih =>
    obtain ⟨g, hg, h1, h2, h3⟩ := ih
    refine ⟨_, by rw [storeTo, pageOf_setB, hg]; rfl, ?_⟩
    dsimp only
    split <;> exact ⟨h1, h2, h3⟩
end Go.Pat
namespace Go.Proofs
open Go Go.RowKit Go.Pat

set_option maxHeartbeats 1000000 in
theorem Store_any (w : World) (p mb : Nat) (fs : List Fr) (hM : MemAt w p mb fs) (at_ v k : Nat) (hat : at_ < 18446744073709551616) (hw : wide k = true) (hk : k ≤ 8) (_hv : v < 18446744073709551616) (h0 : askedM fs at_ k 2 = 0) :
    Calls Tryz.prog 94 #[.pointer (some ⟨p, 0, none⟩), .int .u64 at_, .int .i64 k, .int .u64 v] w fun e w' =>
      e = .returned (.int .i64 0) ∧ MemAt w' p mb (storeTo fs at_ v k) ∧ KeptBut (fun b => b ∈ fs.map (·.blk)) w w' := by
  obtain ⟨z1, z2, z3⟩ := asked_zero h0
  have h0' : (askedM fs at_ k 2 != 0) = false := by simp [h0]
  have H0 := Lib.hid h0
  clear h0
  go_enter Tryz.func94, Tryz.ntmps94
  go_wp2_with (first | (go_at_call 109; refine (width_all _ _).mono ?_; rw [hw]; rintro e w' ⟨rfl, rfl⟩) | (go_at_call 103; refine (asked_all _ p mb fs hM at_ k 2 hat (by omega)).mono ?_; rintro e w' ⟨rfl, hb⟩))
  have hM1 := hM.below hM.lt hb
  have hK1 : KeptBut (fun b => b ∈ fs.map (·.blk)) w w' := .of_below hb
  clear hb
  go_loopw [25] (fun i wr => ∃ j : Nat, j ≤ k ∧ i = .int .i64 j ∧ MemAt wr p mb (storeTo fs at_ v j) ∧ KeptBut (fun b => b ∈ fs.map (·.blk)) w wr) (fun i _ => k - (intOf i).toNat)
  case atStart => exact ⟨0, by omega, rfl, hM1, hK1⟩
  case round =>
    obtain ⟨j, hj, rfl, hMj, hKj⟩ := hrel
    clear hM1 hK1
    by_cases hlt : j < k
    · have hd3 : decide ((j : Int) < (k : Int)) = true := by simp; omega
      obtain ⟨f0, hf0, _⟩ := z3 j hlt
      obtain ⟨f, hf, hfb0, hx1, hx2⟩ := pageOf_store hf0 at_ v j
      have hS : f.blk ∈ fs.map (·.blk) := by rw [hfb0]; exact List.mem_map.2 ⟨f0, List.mem_of_find?_eq_some hf0, rfl⟩
      clear hfb0 hx1 hx2
      have hF : FrIn wr f := hMj.pages f (List.mem_of_find?_eq_some hf)
      go_wp2_with (go_at_call 110; refine (page_hit _ p mb _ hMj (at_ + j) (by omega) f hf).mono ?_; rintro e w2 ⟨rfl, hb2⟩)
      have hF2 := fun o => hF.below (hb2.alloc hb2.size o)
      have hl2 : (at_ + j) % 4096 < f.data.length := by rw [hF.1]; omega
      have hcl := fun o => (hF2 o).cell _ hl2
      have hfz := fun o => (hF2 o).frozen ((at_ + j) % 4096)
      have hv2 : (v : Int) / 2 ^ (8 * j) % 256 = ((UInt8.ofNat (v / 256 ^ j)).toNat : Int) := by rw [UInt8.toNat_ofNat', pow_256, Int.natCast_emod, Int.natCast_ediv, Int.natCast_pow]; rfl
      have HV := Lib.hid hv2
      clear hv2
      go_region
      go_wp2
      go_roundw
      case rel =>
        refine ⟨j + 1, by omega, by go_num, ?_, ?_⟩
        · rw [HV.out]
          exact (((hMj.below hMj.lt hb2).below (hMj.below hMj.lt hb2).lt ((Below.refl _ _).alloc (Nat.le_refl _) _)).setB hf _).keep rfl rfl (fun _ _ => rfl)
        · exact ((hKj.trans (.of_below (hb2.alloc hb2.size _))).setCell _ hS _).drew
      case measure => simp [intOf]; omega
    · have hd3 : decide ((j : Int) < (k : Int)) = false := by simp; omega
      obtain rfl : j = k := by omega
      go_wp2
      go_ret
      exact ⟨rfl, hMj, hKj⟩

set_option maxHeartbeats 1000000 in
theorem Store_err (w : World) (p mb : Nat) (fs : List Fr) (hM : MemAt w p mb fs) (at_ : Nat) (n v : Int) (hat : at_ < 18446744073709551616) (h : storeE fs at_ n ≠ 0) :
    Calls Tryz.prog 94 #[.pointer (some ⟨p, 0, none⟩), .int .u64 at_, .int .i64 n, .int .u64 v] w fun e w' =>
      e = .returned (.int .i64 (storeE fs at_ n)) ∧ Below w.heap.size w w' := by
  rcases (by unfold storeE at h; cases hw : wide n <;> simp_all : wide n = false ∨ wide n = true ∧ askedM fs at_ n.toNat 2 ≠ 0) with hw | ⟨hw, h0⟩
  · have hfin : storeE fs at_ n = 1 := by simp [storeE, hw]
    clear h
    have HF := Lib.hid hfin
    clear hfin
    go_enter Tryz.func94, Tryz.ntmps94
    go_wp2_with (go_at_call 109; refine (width_all _ _).mono ?_; rw [hw]; rintro e w' ⟨rfl, rfl⟩)
    go_ret
    exact ⟨by rw [HF.out]; rfl, Below.refl _ _⟩
  · obtain ⟨k, rfl, hk⟩ : ∃ k : Nat, n = k ∧ (k ≤ 8) := by
      simp [wide] at hw
      exact ⟨n.toNat, by omega, by omega⟩
    have hfin : storeE fs at_ k = askedM fs at_ k 2 := by simp [storeE, hw]
    clear h
    have HF := Lib.hid hfin
    have h0' : (askedM fs at_ k 2 != 0) = true := by simpa using h0
    clear hfin h0
    go_enter Tryz.func94, Tryz.ntmps94
    go_wp2_with (first | (go_at_call 109; refine (width_all _ _).mono ?_; rw [hw]; rintro e w' ⟨rfl, rfl⟩) | (go_at_call 103; refine (asked_all _ p mb fs hM at_ k 2 hat (by omega)).mono ?_; rintro e w' ⟨rfl, hb⟩))
    go_ret
    exact ⟨by rw [HF.out]; rfl, hb⟩
end Go.Proofs

/- Slices that are read, and appending to a slice of the call's own: for any program. -/
namespace Go.Pat
open Go Go.RowKit

/-- the cells xs lie from A on, in blocks below B (where there are none, A may be anything). -/
def Cs (B : Nat) (w : World) (A : Option Addr) (xs : List Value) : Prop :=
  ∀ i, (h : i < xs.length) → ∃ b o, A = some ⟨b, o, none⟩ ∧ b < B ∧ w.cell? ⟨b, o + i, none⟩ = some xs[i]

section
variable {B : Nat} {w w' : World} {A : Option Addr} {xs : List Value}
theorem Cs.nil : Cs B w A [] := fun i h => absurd h (by simp)
theorem Cs.form (h : Cs B w A xs) (hx : xs ≠ []) : ∃ b o, A = some ⟨b, o, none⟩ ∧ b < B := by
  obtain ⟨b, o, e, hb, _⟩ := h 0 (List.length_pos_iff.2 hx)
  exact ⟨b, o, e, hb⟩
theorem Cs.keep (h : Cs B w A xs) (hk : ∀ p : Addr, p.block < B → w'.cell? p = w.cell? p) : Cs B w' A xs := by
  intro i hi
  obtain ⟨b, o, e, hb, hc⟩ := h i hi
  exact ⟨b, o, e, hb, (hk _ hb).trans hc⟩
theorem Cs.below (h : Cs B w A xs) (hb : Below B w w') : Cs B w' A xs := h.keep fun _ hp => hb.cell hp
theorem Cs.more {B' : Nat} (h : Cs B w A xs) (hB : B ≤ B') : Cs B' w A xs := by
  intro i hi
  obtain ⟨b, o, e, hb, hc⟩ := h i hi
  exact ⟨b, o, e, by omega, hc⟩
theorem Cs.cell {b o : Nat} (h : Cs B w (some ⟨b, o, none⟩) xs) (i : Nat) (hi : i < xs.length) : w.cell? ⟨b, o + i, none⟩ = some xs[i] := by
  obtain ⟨b', o', e, _, hc⟩ := h i hi
  simp only [Option.some.injEq, Addr.mk.injEq] at e
  obtain ⟨rfl, rfl, _⟩ := e
  exact hc
theorem Cs.news (h : Cs B w A xs) {ad : Addr} (hA : A = some ad) : ∀ j u, xs[j]? = some u → w.cell? (ad.add j) = some u := by
  intro j u hu
  obtain ⟨hj, rfl⟩ := List.getElem?_eq_some_iff.1 hu
  obtain ⟨b, o, e, _, hc⟩ := h j hj
  rw [hA] at e
  cases e
  rw [Addr.add_lit]
  exact hc
/-- a part of what is read: from cell k on. -/
theorem Cs.drop (h : Cs B w A xs) (k : Nat) : Cs B w (A.map (·.add k)) (xs.drop k) := by
  intro i hi
  have hi' : k + i < xs.length := by simp at hi; omega
  obtain ⟨b, o, e, hb, hc⟩ := h (k + i) hi'
  refine ⟨b, o + k, by subst e; simp only [Option.map_some, Addr.add_lit], hb, ?_⟩
  rw [Nat.add_assoc, hc, List.getElem_drop]
theorem Cs.take (h : Cs B w A xs) (k : Nat) : Cs B w A (xs.take k) := by
  intro i hi
  have hi' : i < xs.length := by simp at hi; omega
  obtain ⟨b, o, e, hb, hc⟩ := h i hi'
  exact ⟨b, o, e, hb, by rw [hc, List.getElem_take]⟩
theorem Cs.of_own {base : Nat} {e : TypeId} {size n c : Nat} (h : w.ownsRow base e size (.slice A n c) n xs) : Cs w.heap.size w A xs := by
  intro i hi
  rcases h.2 with ⟨hv, hn⟩ | ⟨g, cap, cur, hv, _, hg, _, _, _, ht⟩
  · have := h.1
    rw [hn, Nat.zero_mul] at this
    omega
  · simp only [Value.slice.injEq] at hv
    obtain ⟨hA, _, _⟩ := hv
    refine ⟨g, 0, hA, lt_of_block hg, ?_⟩
    have hi2 : i < n * size := by rw [← h.1]; exact hi
    rw [cell_of_row w g (0 + i) cur _ _ hg]
    have : (cur.toList.take (n * size))[i]? = some xs[i] := by rw [ht]; simp
    rw [List.getElem?_take, if_pos hi2] at this
    simpa using this
end

/-- what the table says of a slice type and its element type. -/
structure ElT (P : Program) (t e : TypeId) (z : Value) (size bytes : Nat) : Prop where
  ht : P.underlying t = some (.slice e)
  hi : (P.info? e).map (fun i => (i.zero, i.size, i.bytes)) = some (some z, size, bytes)
  hz : z.cells.size = size
  hs : 0 < size

theorem run_app {P : Program} (w : World) {t ty e : TypeId} {z : Value} {size bytes : Nat} (hE : ElT P t e z size bytes) (base : Nat)
    (v : Value) (n : Nat) (xs : List Value) (hown : w.ownsRow base e size v n xs)
    (B : Nat) (A : Option Addr) (m c : Nat) (news : List Value) (hl : news.length = m * size) (hr : Cs B w A news) (h1 : ∀ u ∈ news, u.oneCell' = true)
    (h63 : n + m ≤ maxLen) (hbytes : (n + m) * bytes ≤ 140737488355328) (hbase : base ≤ w.heap.size) :
    ∃ v' w', (Builtin.append_ #[t, t] ty #[v, .slice A m c]).run P w = .ok v' w' ∧ w'.ownsRow base e size v' (n + m) (xs ++ news) ∧ w.grownBy w' v.ownBlock ∧
      (v' = .slice none 0 0 ↔ v = .slice none 0 0 ∧ m = 0) ∧ (v'.ownBlock = v.ownBlock ∨ v'.ownBlock = some w.heap.size) := by
  obtain ⟨i, hi, hz0, hz1, hz2⟩ := info_parts hE.hi
  cases A with
  | some ad => exact run_append_own_at (P := P) w base t ty e i z size bytes hE.ht hi hz0 hz1 hz2 hE.hz hE.hs v n xs hown ad m c news hl (hr.news rfl) h1 h63 hbytes hbase
  | none =>
    have hn : news = [] := by
      cases news with
      | nil => rfl
      | cons a l => obtain ⟨_, _, e, _⟩ := hr 0 (by simp); cases e
    subst hn
    have hm : m = 0 := by
      have := hE.hs
      rcases Nat.eq_zero_or_pos m with h | h
      · exact h
      · have := Nat.mul_pos h this
        simp at hl
        omega
    subst hm
    refine ⟨v, w, ?_, by simpa using hown, ⟨rfl, rfl, rfl, Nat.le_refl _, fun _ _ _ => rfl⟩, by simp, .inl rfl⟩
    rcases hown.2 with ⟨rfl, rfl⟩ | ⟨g, cap, cur, rfl, _, _, hnc, _⟩
    · simp [Builtin.append_, run_underlying hE.ht, sizeOf, typeInfo, hi, Builtin.lenOf, Builtin.firstCells]
    · simp [Builtin.append_, run_underlying hE.ht, sizeOf, typeInfo, hi, Builtin.lenOf, Builtin.firstCells, hnc, storeCells]

theorem wpList_app {P : Program} (w : World) {ops : Array Oper} {rest : List Oper} {o : Oper} {a : Act} {Q : Exit → Act → World → Prop} (hgd : o.guard = none) (s x : Operand) (t : TypeId)
    (ho : o.op = .call { callee := .builtin .append, args := #[s, x], argTypes := #[t, t] })
    {e : TypeId} {z : Value} {size bytes : Nat} (hE : ElT P t e z size bytes) (base : Nat)
    (v : Value) (n : Nat) (xs : List Value) (hs : a.eval s = v) (hown : w.ownsRow base e size v n xs)
    (B : Nat) (A : Option Addr) (m c : Nat) (news : List Value) (hx : a.eval x = .slice A m c) (hl : news.length = m * size) (hr : Cs B w A news) (h1 : ∀ u ∈ news, u.oneCell' = true)
    (h63 : n + m ≤ maxLen) (hbytes : (n + m) * bytes ≤ 140737488355328) (hbase : base ≤ w.heap.size)
    (h : ∀ v' w', w'.ownsRow base e size v' (n + m) (xs ++ news) → w.grownBy w' v.ownBlock → (v' = .slice none 0 0 ↔ v = .slice none 0 0 ∧ m = 0) → (v'.ownBlock = v.ownBlock ∨ v'.ownBlock = some w.heap.size) → wpList P ops Q rest (a.put o.dst v') w') :
    wpList P ops Q (o :: rest) a w := by
  refine wpList_plain hgd fun K hK => ?_
  obtain ⟨v', w', hr, h2, h3, h4, h5⟩ := run_app (P := P) w (ty := o.type) hE base v n xs hown B A m c news hl hr h1 h63 hbytes hbase
  unfold Oper.wp execOp
  simp only [ho, resolve, invoke, builtin, Sem.run_bind, Sem.run_pure, Result.andThen_ok, List.map_toArray, List.map_cons, List.map_nil, hs, hx, hr]
  exact hK _ _ (h v' w' h2 h3 h4 h5)

theorem own_below {base : Nat} {e : TypeId} {size n : Nat} {v : Value} {w w1 W : World} {xs : List Value} (hown : w.ownsRow base e size v n xs) (hB : Below base W w) (hg : w.grownBy w1 v.ownBlock) (hbase : base ≤ w.heap.size) : Below base W w1 :=
  hB.grown hg hbase fun k hk => (hown.lt k hk).1

/-- bytes as cells. -/
def bval (c : UInt8) : Value := .int .u8 (c.toNat : Int)
def bcells (l : List UInt8) : List Value := l.map bval
theorem bcells_length (l : List UInt8) : (bcells l).length = l.length := by simp [bcells]
theorem bcells_one (l : List UInt8) : ∀ u ∈ bcells l, u.oneCell' = true := by
  intro u hu
  obtain ⟨_, _, rfl⟩ := List.mem_map.1 hu
  rfl
theorem bcells_append (l m : List UInt8) : bcells (l ++ m) = bcells l ++ bcells m := by simp [bcells]
/-- bytes are read from A on. -/
abbrev Bs (B : Nat) (w : World) (A : Option Addr) (l : List UInt8) : Prop := Cs B w A (bcells l)
theorem Bs.at_ {B : Nat} {w : World} {A : Option Addr} {l : List UInt8} (h : Bs B w A l) (i : Nat) (hi : i < l.length) : ∃ b o, A = some ⟨b, o, none⟩ ∧ b < B ∧ w.cell? ⟨b, o + i, none⟩ = some (.int .u8 (l[i].toNat : Int)) := by
  obtain ⟨b, o, e, hb, hc⟩ := h i (by simpa [bcells] using hi)
  exact ⟨b, o, e, hb, by rw [hc]; simp [bcells, bval]⟩
end Go.Pat

/- New, allowed, there and Map of package mem. -/
namespace Go.Pat
open Go Go.RowKit

def allowedB (perm : Int) : Bool := decide (0 < perm) && decide (perm ≤ 7) && (bits BinOp.and .i64 perm 3 != 3)

/-- a page of noughts, as cells. -/
def zeroPage : Array Value := madeCells #[.int .u8 0] 4096
theorem zeroPage_size : zeroPage.size = 4096 := size_madeCells _ _
theorem zeroPage_at (i : Nat) (h : i < 4096) : zeroPage[i]? = some (.int .u8 ((0 : UInt8).toNat : Int)) := by
  unfold zeroPage madeCells
  simp [h]
  rw [Nat.mod_one]
  rfl
def zeros : List UInt8 := List.replicate 4096 0
theorem zeros_length : zeros.length = 4096 := by unfold zeros; exact List.length_replicate ..

/-- a page without its place. -/
structure Pgd where
  base : Nat
  perm : Int
  data : List UInt8
def Fr.pg (f : Fr) : Pgd := ⟨f.base, f.perm, f.data⟩
def fresh (base : Nat) (perm : Int) (n : Nat) : List Pgd := (List.range n).map fun i => ⟨base + i * 4096, perm, zeros⟩
theorem fresh_succ (base : Nat) (perm : Int) (n : Nat) : fresh base perm (n + 1) = fresh base perm n ++ [⟨base + n * 4096, perm, zeros⟩] := by
  simp [fresh, List.range_succ]

theorem setObjW_heap (w : World) (r : Nat) (o : Obj) (hr : r < w.heap.size) : (setObjW w r o).heap[r]? = some o := by simp [setObjW, hr]
theorem setObjW_other (w : World) (r : Nat) (o : Obj) (k : Nat) (hk : k ≠ r) : (setObjW w r o).heap[k]? = w.heap[k]? := by simp [setObjW, Ne.symm hk]
theorem KeptBut.setObjW {S : Nat → Prop} {a b : World} (h : KeptBut S a b) (r : Nat) (hr : S r) (o : Obj) : KeptBut S a (setObjW b r o) :=
  ⟨h.os, h.tape, h.output, by simpa [Go.Pat.setObjW] using h.size, fun i hi hs => (setObjW_other b r o i (fun e => hs (e ▸ hr))).trans (h.block i hi hs)⟩

theorem MemAt.p_ne_mb {w : World} {p mb : Nat} {fs : List Fr} (h : MemAt w p mb fs) : p ≠ mb := by
  rintro rfl
  have h1 := h.str
  rw [h.map] at h1
  cases h1
theorem FrIn.ne_mb {w : World} {p mb : Nat} {fs : List Fr} (h : MemAt w p mb fs) {f : Fr} (hF : FrIn w f) : f.blk ≠ mb := by
  obtain ⟨_, _, _, cur, h4, _⟩ := hF
  rintro rfl
  rw [h.map] at h4
  cases h4

theorem MemAt.push {w : World} {p mb : Nat} {fs : List Fr} (h : MemAt w p mb fs) (f : Fr) (hF : FrIn w f) (hb : f.blk ∉ fs.map (·.blk)) (hk : f.base ∉ fs.map (·.base)) (hs : f.base < 281474976710656) :
    MemAt (Go.Pat.setObjW w mb (.map ((ents 0 fs).toArray.push { key := .int .u64 f.base, val := f.val, born := fs.length }) (fs.length + 1))) p mb (fs ++ [f]) := by
  refine ⟨(setObjW_other _ _ _ _ h.p_ne_mb).trans h.str, ?_, ?_, ?_, ?_, ?_⟩
  · rw [setObjW_heap _ _ _ h.lt.2.1, ents_append]
    simp [ents, Fr.ent]
  · intro g hg
    rcases List.mem_append.1 hg with hg | hg
    · exact (h.pages g hg).keep (setObjW_other _ _ _ _ (FrIn.ne_mb h (h.pages g hg)))
    · obtain rfl := List.mem_singleton.1 hg
      exact hF.keep (setObjW_other _ _ _ _ (FrIn.ne_mb h hF))
  · rw [List.map_append]
    exact List.nodup_append.2 ⟨h.apart, by simp, by intro a ha b hb'; simp at hb'; subst hb'; rintro rfl; exact hb ha⟩
  · rw [List.map_append]
    exact List.nodup_append.2 ⟨h.keys, by simp, by intro a ha b hb'; simp at hb'; subst hb'; rintro rfl; exact hk ha⟩
  · intro g hg
    rcases List.mem_append.1 hg with hg | hg
    · exact h.small g hg
    · obtain rfl := List.mem_singleton.1 hg
      exact hs
theorem MemAt.upd {w : World} {p mb : Nat} {fs : List Fr} (h : MemAt w p mb fs) (k : Nat) (v : Value) (hk : frAt fs k = none) :
    (Instr.mapUpdate 139 (.map (some mb)) (.int .u64 k) v).run Go.Proofs.Tryz.prog w = .ok () (Go.Pat.setObjW w mb (.map ((ents 0 fs).toArray.push { key := .int .u64 k, val := v, born := fs.length }) (fs.length + 1))) :=
  run_mapUpdate_new Tryz_und_map Tryz_und_u64 (by simp [Go.MapKept.IsKey]) h.map (findNow_none hk)
theorem frAt_none_of {fs : List Fr} {k : Nat} (h : k ∉ fs.map (·.base)) : frAt fs k = none := by
  unfold frAt
  rw [List.find?_eq_none]
  intro x hx
  simp
  rintro rfl
  exact h (List.mem_map.2 ⟨x, hx, rfl⟩)
theorem not_mem_of_frAt {fs : List Fr} {k : Nat} (h : frAt fs k = none) : k ∉ fs.map (·.base) := by
  intro hm
  obtain ⟨x, hx, rfl⟩ := List.mem_map.1 hm
  have := List.find?_eq_none.1 h x hx
  simp at this
end Go.Pat
namespace Go.Proofs
open Go Go.RowKit Go.Pat

theorem Tryz_info_u8 : (Tryz.prog.info? 5).map (fun i => (i.zero, i.size, i.bytes)) = some (some (.int .u8 0), 1, 1) := by kernel_rfl
theorem run_makePage (w : World) : (Instr.makeSlice 35 (.int .i64 4096) (.int .i64 4096)).run Tryz.prog w = .ok (.slice (some ⟨w.heap.size, 0, none⟩) 4096 4096) (w.alloc (.cells zeroPage 5)) := by
  obtain ⟨i, hi, hz0, hz1, hz2⟩ := info_parts Tryz_info_u8
  have h := run_make (P := Tryz.prog) w 35 5 i _ Tryz.underlying35 hi hz0 .i64 .i64 4096 4096 (by omega) (by omega) (by rw [hz2]; decide) (by omega)
  rw [hz1] at h
  exact h

theorem New_any (w : World) : Calls Tryz.prog 73 #[] w fun e w' => ∃ p mb, e = .returned (.pointer (some ⟨p, 0, none⟩)) ∧ MemAt w' p mb [] ∧ Below w.heap.size w w' ∧ w.heap.size ≤ p ∧ w.heap.size ≤ mb := by
  have hmm := @run_makeMap Tryz.prog
  go_enter Tryz.func73, Tryz.ntmps73
  go_wp2
  go_ret
  refine ⟨w.heap.size + 1, w.heap.size, rfl, ⟨?_, ?_, by simp, by simp, by simp, by simp⟩, ((Below.refl _ _).alloc (Nat.le_refl _) _).alloc (by simp) _, by omega, by omega⟩
  · have := heap_alloc_new (w.alloc (.map #[] 0)) (.cells #[.map (some w.heap.size)] 141)
    rw [World.size_alloc] at this
    exact this
  · rw [Below.heap_alloc _ _ _ (by simp)]
    exact heap_alloc_new w _

theorem allowed_all (perm : Int) (w : World) : Calls Tryz.prog 74 #[.int .i64 perm] w fun e w' => e = .returned (.bool (allowedB perm)) ∧ w = w' := by
  cases h1 : decide (0 < perm) with
  | false =>
    have hf : allowedB perm = false := by simp [allowedB, h1]
    go_enter Tryz.func74, Tryz.ntmps74
    go_wp2
    go_ret
    exact ⟨by rw [hf]; rfl, rfl⟩
  | true =>
    cases h2 : decide (perm ≤ 7) with
    | false =>
      have hf : allowedB perm = false := by simp [allowedB, h2]
      go_enter Tryz.func74, Tryz.ntmps74
      go_wp2
      go_ret
      exact ⟨by rw [hf]; rfl, rfl⟩
    | true =>
      cases h3 : bits BinOp.and IntKind.i64 perm 3 != 3 with
      | false =>
        have hf : allowedB perm = false := by simp [allowedB, h3]
        go_enter Tryz.func74, Tryz.ntmps74
        go_wp2
        go_ret
        exact ⟨by rw [hf]; rfl, rfl⟩
      | true =>
        have hf : allowedB perm = true := by simp [allowedB, h1, h2, h3]
        go_enter Tryz.func74, Tryz.ntmps74
        go_wp2
        go_ret
        exact ⟨by rw [hf]; rfl, rfl⟩

end Go.Proofs

/- (*Mem).Map. -/
namespace Go.Pat
open Go Go.RowKit

def mapN (size : Nat) : Nat := (size + 4095) / 4096
def anyThere (fs : List Fr) (base : Nat) : Nat → Bool
  | 0 => false
  | k + 1 => anyThere fs base k || (pageOf fs (base + k * 4096)).isSome
theorem anyThere_mono {fs : List Fr} {base k n : Nat} (h : anyThere fs base k = true) (hk : k ≤ n) : anyThere fs base n = true := by
  induction n with
  | zero => obtain rfl : k = 0 := by omega
            exact h
  | succ n ih =>
    by_cases e : k = n + 1
    · subst e; exact h
    · simp [anyThere, ih (by omega)]
theorem anyThere_none {fs : List Fr} {base n : Nat} (h : anyThere fs base n = false) : ∀ i, i < n → pageOf fs (base + i * 4096) = none := by
  induction n with
  | zero => intro i hi; omega
  | succ n ih =>
    simp only [anyThere, Bool.or_eq_false_iff] at h
    intro i hi
    by_cases e : i = n
    · subst e; simpa using h.2
    · exact ih h.1 i (by omega)

def mapE (fs : List Fr) (base : Nat) (perm : Int) (size : Nat) : Int :=
  if base % 4096 ≠ 0 ∨ size = 0 ∨ 281474976710656 < base ∨ 281474976710656 - base < size then 1
  else if allowedB perm = false then 21
  else if 4096 - fs.length < mapN size then 20
  else if anyThere fs base (mapN size) then 20 else 0
end Go.Pat
namespace Go.Proofs
open Go Go.RowKit Go.Pat

/-- the four tests of Map's arguments, all passed, in the walk's words. -/
theorem map_tests {base size : Nat} (h : ¬ (base % 4096 ≠ 0 ∨ size = 0 ∨ 281474976710656 < base ∨ 281474976710656 - base < size)) :
    ((base : Int) % 4096 != 0) = false ∧ ((size : Int) == 0) = false ∧ decide ((281474976710656 : Int) < (base : Int)) = false ∧ decide ((281474976710656 : Int) - (base : Int) < (size : Int)) = false ∧ (base : Int) ≤ 281474976710656 ∧ (size : Int) ≤ 281474976710656 := by
  refine ⟨?_, ?_, ?_, ?_, by omega, by omega⟩
  · simp; omega
  · simp; omega
  · simp; omega
  · simp; omega

theorem len_map (w : World) (p mb : Nat) (fs : List Fr) (hM : MemAt w p mb fs) : ∀ ty, (Builtin.len_ #[139] ty #[.map (some mb)]).run Tryz.prog w = .ok (.int .i64 fs.length) w := by
  intro ty
  simp [Builtin.len_, run_underlying Tryz.underlying139, Go.MapKept.run_getObj_map hM.map, ents_length, goInt]

theorem push_fresh {w wr : World} {p mb base k : Nat} {perm : Int} {fs news : List Fr} (hMk : MemAt wr p mb (fs ++ news)) (hno : frAt (fs ++ news) (base + k * 4096) = none) (hlt2 : base + k * 4096 < 281474976710656)
    (hnew : news.map Fr.pg = fresh base perm k) (hge : ∀ f ∈ news, w.heap.size ≤ f.blk) (hKk : KeptBut (fun b => b = mb) w wr) :
    ∃ (O : Obj) (news' : List Fr), (Instr.mapUpdate 139 (.map (some mb)) (.int .u64 ((base : Int) + (k : Int) * 4096)) (.agg #[.int .i64 perm, .slice (some ⟨wr.heap.size, 0, none⟩) 4096 4096])).run Tryz.prog ((wr.alloc (.cells zeroPage 5)).drew) = .ok () (setObjW ((wr.alloc (.cells zeroPage 5)).drew) mb O) ∧
      news'.map Fr.pg = fresh base perm (k + 1) ∧ MemAt (setObjW ((wr.alloc (.cells zeroPage 5)).drew) mb O) p mb (fs ++ news') ∧ (∀ f ∈ news', w.heap.size ≤ f.blk) ∧ KeptBut (fun b => b = mb) w (setObjW ((wr.alloc (.cells zeroPage 5)).drew) mb O) := by
  have hB2 : Below wr.heap.size wr ((wr.alloc (.cells zeroPage 5)).drew) := ((Below.refl _ _).alloc (Nat.le_refl _) _).drew
  have hM2 := hMk.below hMk.lt hB2
  let f : Fr := ⟨base + k * 4096, perm, wr.heap.size, 4096, zeros⟩
  have hF : FrIn ((wr.alloc (.cells zeroPage 5)).drew) f := ⟨zeros_length, Nat.le_refl _, by show (4096 : Nat) ≤ maxLen; simp [maxLen], zeroPage, heap_alloc_new wr _, zeroPage_size, fun i hi => by
    have hi2 : i < 4096 := by rw [← zeros_length]; exact hi
    rw [zeroPage_at i hi2]
    show _ = some (Value.int .u8 ((zeros[i]'hi).toNat : Int))
    simp only [zeros, List.getElem_replicate]⟩
  have hup := hM2.upd (base + k * 4096) f.val hno
  have hM3 := hM2.push f hF (by
    intro hm
    obtain ⟨g, hg, hgb⟩ := List.mem_map.1 hm
    have := (hMk.pages g hg).lt
    have e : g.blk = wr.heap.size := hgb
    omega) (not_mem_of_frAt hno) hlt2
  rw [List.append_assoc] at hM3
  refine ⟨_, news ++ [f], ?_, ?_, hM3, ?_, (hKk.trans (.of_below hB2)).setObjW mb rfl _⟩
  · rw [show ((base : Int) + (k : Int) * 4096) = ((base + k * 4096 : Nat) : Int) by omega]
    exact hup
  · rw [fresh_succ, List.map_append, hnew]; rfl
  · intro g hg
    rcases List.mem_append.1 hg with hg | hg
    · exact hge g hg
    · obtain rfl := List.mem_singleton.1 hg
      exact hKk.size

end Go.Proofs

/- slices.Clone of bytes. -/
namespace Go.Proofs
open Go Go.RowKit Go.Pat

theorem Tryz_elU8 : ElT Tryz.prog 35 5 (.int .u8 0) 1 1 := ⟨Tryz.underlying35, by kernel_rfl, rfl, by decide⟩

/-- a slice of bytes of the call's own: nil just where it says so. -/
def OwnB (w : World) (base : Nat) (v : Value) (l : List UInt8) : Prop := w.ownsRow base 5 1 v l.length (bcells l)

theorem Tryz_bnil (n c : Nat) (A : Addr) (w : World) : (binOp .eql 35 (.slice (some A) n c) (.slice none 0 0)).run Tryz.prog w = .ok (.bool false) w :=
  Lib.run_eql_slice_nil w _ _ (some A) n c 0 0 Tryz.underlying35

set_option maxHeartbeats 1000000 in
theorem bclone_any (w : World) (A : Addr) (cap : Nat) (l : List UInt8) (hr : Bs w.heap.size w (some A) l) (hl : l.length ≤ 140737488355328) :
    Calls Tryz.prog 49 #[.slice (some A) l.length cap] w fun e w' => ∃ v, e = .returned v ∧ OwnB w' w.heap.size v l ∧ v ≠ .slice none 0 0 ∧ Below w.heap.size w w' := by
  have q := Tryz_bnil l.length cap A
  go_enter Tryz.func49, Tryz.ntmps49
  have hown : (w.alloc (.cells #[] 5)).ownsRow w.heap.size 5 1 (.slice (some ⟨w.heap.size, 0, none⟩) 0 0) 0 [] := World.ownsRow_lit w #[] 0 (Nat.le_refl _) (by simp [maxLen]) rfl
  have hr1 : Bs w.heap.size (w.alloc (.cells #[] 5)) (some A) l := hr.below ((Below.refl _ _).alloc (Nat.le_refl _) _)
  go_wp2_with (at_builtin; refine wpList_app _ rfl _ _ _ rfl Tryz_elU8 w.heap.size _ 0 [] (by rfl) hown w.heap.size (some A) l.length cap (bcells l) (by rfl) (by rw [bcells_length, Nat.mul_one]) hr1 (bcells_one l) (by simp only [maxLen]; omega) (by omega) (by simp) ?_)
  intro v' w1 hown' hg hnil hat
  have hB : Below w.heap.size w w1 := own_below hown ((Below.refl _ _).alloc (Nat.le_refl _) _) hg (by simp)
  have hne : v' ≠ .slice none 0 0 := by simpa using hnil
  clear hnil hg hown hr1
  go_wp2
  go_ret
  exact ⟨v', rfl, hown', hne, hB⟩
theorem bclone_n (w : World) (A : Addr) (n cap : Nat) (l : List UInt8) (hn : l.length = n) (hr : Bs w.heap.size w (some A) l) (hl : n ≤ 140737488355328) :
    Calls Tryz.prog 49 #[.slice (some A) n cap] w fun e w' => ∃ v, e = .returned v ∧ OwnB w' w.heap.size v l ∧ v ≠ .slice none 0 0 ∧ Below w.heap.size w w' := by
  subst hn
  exact bclone_any w A cap l hr hl
end Go.Proofs

/- mem.From: pages that come in, and what is wrong with them. -/
namespace Go.Pat
open Go Go.RowKit

/-- a page as it comes in: what it says, and where its bytes lie. -/
structure PgIn where
  base : Nat
  perm : Int
  A : Option Addr
  cap : Nat
  data : List UInt8
def PgIn.pg (p : PgIn) : Pgd := ⟨p.base, p.perm, p.data⟩

/-- pages lie from A on, three cells each, below block B. -/
structure PgsAt (B : Nat) (w : World) (A : Option Addr) (ps : List PgIn) : Prop where
  cells : ∀ i, (h : i < ps.length) → ∃ b o, A = some ⟨b, o, none⟩ ∧ b < B ∧ w.cell? ⟨b, o + i * 3, none⟩ = some (.int .u64 (ps[i].base : Int)) ∧ w.cell? ⟨b, o + i * 3 + 1, none⟩ = some (.int .i64 ps[i].perm) ∧
    w.cell? ⟨b, o + i * 3 + 2, none⟩ = some (.slice ps[i].A ps[i].data.length ps[i].cap)
  bytes : ∀ p ∈ ps, Bs B w p.A p.data
  small : ∀ p ∈ ps, p.base < 18446744073709551616 ∧ p.data.length ≤ 140737488351232
  few : ps.length ≤ 140737488351232
theorem PgsAt.below {B : Nat} {w w' : World} {A : Option Addr} {ps : List PgIn} (h : PgsAt B w A ps) (hb : Below B w w') : PgsAt B w' A ps := by
  refine ⟨fun i hi => ?_, fun p hp => (h.bytes p hp).below hb, h.small, h.few⟩
  obtain ⟨b, o, e, hlt, h1, h2, h3⟩ := h.cells i hi
  exact ⟨b, o, e, hlt, (hb.cell (p := ⟨b, _, none⟩) hlt).trans h1, (hb.cell (p := ⟨b, _, none⟩) hlt).trans h2, (hb.cell (p := ⟨b, _, none⟩) hlt).trans h3⟩

/-- what is wrong with page k. -/
def wrongAt (ps : List Pgd) (k : Nat) : Int := match ps[k]? with
  | none => 0
  | some p => if p.base % 4096 ≠ 0 ∨ 281474976710656 ≤ p.base ∨ (0 < k ∧ p.base ≤ (ps.map Pgd.base).getD (k - 1) 0) ∨ p.data.length ≠ 4096 then 20 else if allowedB p.perm then 0 else 21
def wrongTo (ps : List Pgd) : Nat → Int
  | 0 => 0
  | k + 1 => if wrongTo ps k = 0 then wrongAt ps k else wrongTo ps k
def fromE (ps : List Pgd) : Int := if 4096 < ps.length then 20 else wrongTo ps ps.length

theorem wrongTo_mono {ps : List Pgd} {k n : Nat} {x : Int} (h : wrongTo ps k = x) (hx : x ≠ 0) (hk : k ≤ n) : wrongTo ps n = x := by
  induction n with
  | zero => obtain rfl : k = 0 := by omega
            exact h
  | succ n ih =>
    by_cases e : k = n + 1
    · subst e; exact h
    · have := ih (by omega)
      simp only [wrongTo, this, if_neg hx]
theorem wrongTo_ok {ps : List Pgd} {n : Nat} (h : wrongTo ps n = 0) : ∀ k, k < n → wrongAt ps k = 0 := by
  induction n with
  | zero => intro k hk; omega
  | succ n ih =>
    simp only [wrongTo] at h
    split at h
    · rename_i h0
      intro k hk
      by_cases e : k = n
      · subst e; exact h
      · exact ih h0 k (by omega)
    · rename_i h0; exact absurd h h0
theorem wrongAt_ok {ps : List Pgd} {k : Nat} (hk : k < ps.length) (h : wrongAt ps k = 0) :
    ps[k].base % 4096 = 0 ∧ ps[k].base < 281474976710656 ∧ (0 < k → (ps.map Pgd.base).getD (k - 1) 0 < ps[k].base) ∧ ps[k].data.length = 4096 ∧ allowedB ps[k].perm = true := by
  unfold wrongAt at h
  rw [List.getElem?_eq_getElem hk] at h
  simp only at h
  split at h
  · cases h
  · rename_i hn
    split at h
    · rename_i ha
      refine ⟨by omega, by omega, by omega, by omega, ha⟩
    · cases h
/-- the bases rise. -/
theorem wrongTo_rises {ps : List Pgd} {n : Nat} (hn : n ≤ ps.length) (h : wrongTo ps n = 0) : ∀ i j, (hj : j < n) → (hi : i < j) → (ps[i]'(by omega)).base < (ps[j]'(by omega)).base := by
  intro i j
  induction j with
  | zero => intro _ hi; omega
  | succ j ih =>
    intro hj hi
    have hw := (wrongAt_ok (by omega) (wrongTo_ok h (j + 1) hj)).2.2.1 (by omega)
    have e : (ps.map Pgd.base).getD (j + 1 - 1) 0 = (ps[j]'(by omega)).base := by
      rw [Nat.add_sub_cancel, List.getD_eq_getElem?_getD, List.getElem?_map, List.getElem?_eq_getElem (by omega)]
      rfl
    rw [e] at hw
    by_cases e2 : i = j
    · subst e2; exact hw
    · exact Nat.lt_trans (ih (by omega) (by omega)) hw

/-- a page is kept in the map, its bytes in memory of its own. -/
theorem push_clone {w1 : World} {p mb B : Nat} {fs : List Fr} {q : PgIn} {v : Value} (hM : MemAt w1 p mb fs) (hown : Go.Proofs.OwnB w1 B v q.data) (hl : q.data.length = 4096) (hB : ∀ f ∈ fs, f.blk < B)
    (hno : frAt fs q.base = none) (hs : q.base < 281474976710656) :
    ∃ (g cap : Nat) (O : Obj), v = .slice (some ⟨g, 0, none⟩) 4096 cap ∧ B ≤ g ∧
      (Instr.mapUpdate 139 (.map (some mb)) (.int .u64 (q.base : Int)) (.agg #[.int .i64 q.perm, .slice (some ⟨g, 0, none⟩) 4096 cap])).run Go.Proofs.Tryz.prog w1 = .ok () (setObjW w1 mb O) ∧
      MemAt (setObjW w1 mb O) p mb (fs ++ [⟨q.base, q.perm, g, cap, q.data⟩]) := by
  rcases hown.2 with ⟨_, h0⟩ | ⟨g, cap, cur, rfl, hg, hh, hn, hm, hc, ht⟩
  · omega
  · rw [hl] at hn ht
    rw [hl]
    have hF : FrIn w1 ⟨q.base, q.perm, g, cap, q.data⟩ := by
      refine ⟨hl, hn, hm, cur, hh, by rw [hc, Nat.mul_one], fun i hi => ?_⟩
      have h1 : (cur.toList.take (4096 * 1))[i]? = (bcells q.data)[i]? := by rw [ht]
      have hi2 : i < q.data.length := hi
      rw [List.getElem?_take, if_pos (by omega)] at h1
      simp [bcells, bval, hi2] at h1
      exact h1
    exact ⟨g, cap, _, rfl, hg, hM.upd q.base _ hno, hM.push ⟨q.base, q.perm, g, cap, q.data⟩ hF (by
      intro hx
      obtain ⟨f, hf, e⟩ := List.mem_map.1 hx
      have := hB f hf
      simp only at e
      omega) (not_mem_of_frAt hno) hs⟩
end Go.Pat
namespace Go.Proofs
open Go Go.RowKit Go.Pat

theorem From_many (w : World) (A : Option Addr) (n cap : Nat) (hn : 4096 < n) (hn2 : n ≤ 140737488351232) :
    Calls Tryz.prog 55 #[.slice A n cap] w fun e w' => e = .returned (.tuple #[.pointer none, .int .i64 20]) ∧ w = w' := by
  have hd : decide ((4096 : Int) < (n : Int)) = true := by simp; omega
  go_enter Tryz.func55, Tryz.ntmps55
  go_wp2
  go_ret2
  exact ⟨rfl, rfl⟩

/-- the tests of one page, as the code makes them. -/
theorem from_tests {ps : List PgIn} {k : Nat} (hk : k < ps.length) (h : wrongAt (ps.map PgIn.pg) k = 20) :
    ((ps[k].base : Int) % 4096 != 0) = true ∨
    (((ps[k].base : Int) % 4096 != 0) = false ∧ decide ((281474976710656 : Int) ≤ (ps[k].base : Int)) = true) ∨
    (((ps[k].base : Int) % 4096 != 0) = false ∧ decide ((281474976710656 : Int) ≤ (ps[k].base : Int)) = false ∧ k ≠ 0 ∧ decide (ps[k].base ≤ (ps[k - 1]'(by omega)).base) = true) ∨
    (((ps[k].base : Int) % 4096 != 0) = false ∧ decide ((281474976710656 : Int) ≤ (ps[k].base : Int)) = false ∧ k = 0 ∧ ((ps[k].data.length : Int) != 4096) = true) ∨
    (((ps[k].base : Int) % 4096 != 0) = false ∧ decide ((281474976710656 : Int) ≤ (ps[k].base : Int)) = false ∧ k ≠ 0 ∧ decide (ps[k].base ≤ (ps[k - 1]'(by omega)).base) = false ∧ ((ps[k].data.length : Int) != 4096) = true) := by
  unfold wrongAt at h
  rw [List.getElem?_map, List.getElem?_eq_getElem hk] at h
  have hp : k ≠ 0 → ((ps.map PgIn.pg).map Pgd.base).getD (k - 1) 0 = (ps[k - 1]'(by omega)).base := by
    intro h0
    rw [List.map_map, List.getD_eq_getElem?_getD, List.getElem?_map, List.getElem?_eq_getElem (by omega)]
    rfl
  simp only [Option.map_some, PgIn.pg] at h
  split at h
  · rename_i hc
    simp only [bne_iff_ne, ne_eq, decide_eq_true_eq, decide_eq_false_iff_not, bne_eq_false_iff_eq]
    by_cases h0 : k = 0
    · subst h0
      simp only [Nat.lt_irrefl, false_and, false_or] at hc
      omega
    · have := hp h0
      rw [this] at hc
      omega
  · split at h <;> cases h

theorem bdrewN {B : Nat} {a w : World} (h : Below B a w) (n : Nat) : Below B a (w.drewN n) := ⟨h.os, h.tape, h.output, h.size, h.block⟩

/-- the tests of a page that is right. -/
theorem from_right {ps : List PgIn} {k : Nat} (hk : k < ps.length) (h : ¬ wrongAt (ps.map PgIn.pg) k = 20) :
    ((ps[k].base : Int) % 4096 != 0) = false ∧ decide ((281474976710656 : Int) ≤ (ps[k].base : Int)) = false ∧ (k ≠ 0 → decide (ps[k].base ≤ (ps[k - 1]'(by omega)).base) = false) ∧ ((ps[k].data.length : Int) != 4096) = false ∧
    ps[k].base < 281474976710656 ∧ ps[k].data.length = 4096 ∧ wrongAt (ps.map PgIn.pg) k = if allowedB ps[k].perm then 0 else 21 := by
  unfold wrongAt at h ⊢
  rw [List.getElem?_map, List.getElem?_eq_getElem hk] at h ⊢
  have hp : k ≠ 0 → ((ps.map PgIn.pg).map Pgd.base).getD (k - 1) 0 = (ps[k - 1]'(by omega)).base := by
    intro h0
    rw [List.map_map, List.getD_eq_getElem?_getD, List.getElem?_map, List.getElem?_eq_getElem (by omega)]
    rfl
  simp only [Option.map_some, PgIn.pg] at h ⊢
  split at h
  · exact absurd rfl h
  · rename_i hc
    rw [if_neg hc]
    simp only [bne_eq_false_iff_eq, decide_eq_false_iff_not]
    refine ⟨by omega, by omega, fun h0 => ?_, by omega, by omega, by omega, trivial⟩
    have := hp h0
    simp only [show (List.map PgIn.pg ps) = List.map (fun p : PgIn => ({ base := p.base, perm := p.perm, data := p.data } : Pgd)) ps from rfl] at this
    have h2 : ¬ (0 < k ∧ ps[k].base ≤ (List.map Pgd.base (List.map PgIn.pg ps)).getD (k - 1) 0) := fun hx => hc (.inr (.inr (.inl hx)))
    rw [hp h0] at h2
    omega

/-- the block in which a page of the list is kept while it is looked at. -/
theorem page_block (wr W1 : World) (x y z : Value) (nq : Nat) {p mb t : Nat} (hW1 : W1 = (wr.alloc (.cells #[x, y, z] t)).drewN nq) (hc : wr.cell? ⟨p, 0, none⟩ = some (.map (some mb))) (hp : p < wr.heap.size) :
    Below wr.heap.size wr W1 ∧ wr.heap.size < W1.heap.size ∧ W1.cell? ⟨p, 0, none⟩ = some (.map (some mb)) ∧ W1.cell? ⟨wr.heap.size, 0, none⟩ = some x ∧ W1.cell? ⟨wr.heap.size, 1, none⟩ = some y ∧ W1.cell? ⟨wr.heap.size, 2, none⟩ = some z := by
  have hB : Below wr.heap.size wr W1 := by subst hW1; exact bdrewN ((Below.refl _ _).alloc (Nat.le_refl _) _) _
  have hh : W1.heap[wr.heap.size]? = some (.cells #[x, y, z] t) := by subst hW1; exact heap_alloc_new wr _
  refine ⟨hB, lt_of_block hh, (hB.cell (p := ⟨p, 0, none⟩) hp).trans hc, ?_, ?_, ?_⟩
  · rw [cell_of_row W1 _ 0 _ _ _ hh]; rfl
  · rw [cell_of_row W1 _ 1 _ _ _ hh]; rfl
  · rw [cell_of_row W1 _ 2 _ _ _ hh]; rfl

/-- a page that is right has a base that none ahead of it has. -/
theorem from_fresh {ps : List PgIn} {k : Nat} {fs : List Fr} (hfs : fs.map Fr.pg = (ps.take k).map PgIn.pg) (hw : wrongTo (ps.map PgIn.pg) (k + 1) = 0) (hk : k < ps.length) : frAt fs ps[k].base = none := by
  apply frAt_none_of
  intro hm
  obtain ⟨f, hf, hfb⟩ := List.mem_map.1 hm
  have h1 : f.pg ∈ (ps.take k).map PgIn.pg := by rw [← hfs]; exact List.mem_map.2 ⟨f, hf, rfl⟩
  obtain ⟨q, hq, hqe⟩ := List.mem_map.1 h1
  obtain ⟨i, hi, rfl⟩ := List.getElem_of_mem hq
  have hi2 : i < k := by simp at hi; omega
  have h2 := wrongTo_rises (ps := ps.map PgIn.pg) (n := k + 1) (by simp; omega) hw i k (by omega) hi2
  simp only [List.getElem_map, PgIn.pg] at h2
  have h3 : f.base = (ps.take k)[i].base := (congrArg Pgd.base hqe).symm
  rw [List.getElem_take] at h3
  omega

theorem take_map_succ {α β : Type} (f : α → β) (l : List α) (k : Nat) (hk : k < l.length) : (l.take (k + 1)).map f = (l.take k).map f ++ [f l[k]] := by
  rw [List.take_succ_eq_append_getElem hk, List.map_append]; rfl
theorem below_setObjW {B : Nat} {a b : World} (h : Below B a b) {r : Nat} (hr : B ≤ r) (o : Obj) : Below B a (setObjW b r o) :=
  ⟨h.os, h.tape, h.output, by simpa [setObjW] using h.size, fun k hk => (setObjW_other b r o k (by omega)).trans (h.block k hk)⟩

/-- how From ends. -/
def FromPost (w : World) (ps : List PgIn) (e : Ending) (w' : World) : Prop :=
  (fromE (ps.map PgIn.pg) = 0 ∧ ∃ (p mb : Nat) (fs : List Fr), e = .returned (.tuple #[.pointer (some ⟨p, 0, none⟩), .int .i64 0]) ∧ fs.map Fr.pg = ps.map PgIn.pg ∧ MemAt w' p mb fs ∧
    w.heap.size ≤ p ∧ w.heap.size ≤ mb ∧ (∀ f ∈ fs, w.heap.size ≤ f.blk) ∧ Below w.heap.size w w') ∨
  (fromE (ps.map PgIn.pg) ≠ 0 ∧ e = .returned (.tuple #[.pointer none, .int .i64 (fromE (ps.map PgIn.pg))]) ∧ Below w.heap.size w w')

set_option maxHeartbeats 4000000 in
theorem From_any (w : World) (A : Option Addr) (cap : Nat) (ps : List PgIn) (hP : PgsAt w.heap.size w A ps) (hn : ps.length ≤ 4096) :
    Calls Tryz.prog 55 #[.slice A ps.length cap] w (FromPost w ps) := by
  have hd : decide ((4096 : Int) < (ps.length : Int)) = false := by simp; omega
  have hE : fromE (ps.map PgIn.pg) = wrongTo (ps.map PgIn.pg) ps.length := by simp only [fromE, List.length_map, if_neg (show ¬ 4096 < ps.length by omega)]
  go_enter Tryz.func55, Tryz.ntmps55
  go_wp2_with (go_at_call 73; refine (New_any _).mono ?_; rintro e w0 ⟨p, mb, rfl, hM0, hB0, hp, hmb⟩)
  go_loopw [13] (fun i wr => ∃ (k : Nat) (fs : List Fr), k ≤ ps.length ∧ i = .int .i64 k ∧ wrongTo (ps.map PgIn.pg) k = 0 ∧ fs.map Fr.pg = (ps.take k).map PgIn.pg ∧ MemAt wr p mb fs ∧ (∀ f ∈ fs, w.heap.size ≤ f.blk) ∧ Below w.heap.size w wr) (fun i _ => ps.length - (intOf i).toNat)
  case atStart => exact ⟨0, [], by omega, rfl, rfl, rfl, hM0, by simp, hB0⟩
  case round =>
    obtain ⟨k, fs, hk, rfl, hw0, hfs, hM, hge, hB⟩ := hrel
    have HW := Lib.hid (And.intro hw0 hfs)
    have HE := Lib.hid hE
    clear hM0 hB0 hw0 hfs hE
    have hPr := hP.below hB
    by_cases hlt : k < ps.length
    · have hd3 : decide ((k : Int) < (ps.length : Int)) = true := by simp; omega
      obtain ⟨b, o, rfl, hbl, c1, c2, c3⟩ := hPr.cells k hlt
      have hbz : b < wr.heap.size := Nat.lt_of_lt_of_le hbl hB.size
      have t9 : ((ps[k].base : Int)).tmod 4096 = (ps[k].base : Int) % 4096 := Int.tmod_eq_emod_of_nonneg (by omega)
      by_cases hw : wrongAt (ps.map PgIn.pg) k = 20
      · have hfin : fromE (ps.map PgIn.pg) = 20 := by
          rw [HE.out]
          exact wrongTo_mono (k := k + 1) (by simp only [wrongTo, HW.out.1, if_true, hw]) (by decide) (by omega)
        have HF := Lib.hid hfin
        clear hfin
        have HC : Hid (Below w.heap.size w wr) := hB
        rcases from_tests hlt hw with t1 | ⟨t1, t2⟩ | ⟨t1, t2, t0, t3⟩ | ⟨t1, t2, t0, t4⟩ | ⟨t1, t2, t0, t3, t4⟩
        · clear hw
          go_wp2
          go_quiet (fail)
          go_wp2
          go_ret2
          exact .inr ⟨by rw [HF.out]; decide, by rw [HF.out]; rfl, bdrewN (hB.alloc hB.size _) _⟩
        · clear hw
          go_wp2
          go_quiet (fail)
          go_wp2
          go_ret2
          exact .inr ⟨by rw [HF.out]; decide, by rw [HF.out]; rfl, bdrewN (hB.alloc hB.size _) _⟩
        · clear hw
          have t5 : decide (0 < k) = true := by simp; omega
          have t5b : (1 : Int) ≤ (k : Int) := by omega
          have t5c : IntKind.i64.wrap ((k : Int) - 1) = (k : Int) - 1 := by rw [IntKind.wrap_i64]; omega
          have t6 : ((k : Int) - 1).toNat = k - 1 := by omega
          have t7 : (0 : Int) ≤ (k : Int) - 1 := by omega
          have t8 : (k : Int) - 1 < (ps.length : Int) := by omega
          obtain ⟨b2, o2, e2, hbl2, d1, d2, d3⟩ := hPr.cells (k - 1) (by omega)
          simp only [Option.some.injEq, Addr.mk.injEq, and_true] at e2
          obtain ⟨rfl, rfl⟩ := e2
          clear t0
          go_wp2
          go_quiet (fail)
          go_wp2
          go_ret2
          exact .inr ⟨by rw [HF.out]; decide, by rw [HF.out]; rfl, bdrewN (hB.alloc hB.size _) _⟩
        · clear hw
          have t5 : decide (0 < k) = false := by simp; omega
          clear t0
          go_wp2
          go_quiet (fail)
          go_wp2
          go_ret2
          exact .inr ⟨by rw [HF.out]; decide, by rw [HF.out]; rfl, bdrewN (hB.alloc hB.size _) _⟩
        · clear hw
          have t5 : decide (0 < k) = true := by simp; omega
          have t5b : (1 : Int) ≤ (k : Int) := by omega
          have t5c : IntKind.i64.wrap ((k : Int) - 1) = (k : Int) - 1 := by rw [IntKind.wrap_i64]; omega
          have t6 : ((k : Int) - 1).toNat = k - 1 := by omega
          have t7 : (0 : Int) ≤ (k : Int) - 1 := by omega
          have t8 : (k : Int) - 1 < (ps.length : Int) := by omega
          obtain ⟨b2, o2, e2, hbl2, d1, d2, d3⟩ := hPr.cells (k - 1) (by omega)
          simp only [Option.some.injEq, Addr.mk.injEq, and_true] at e2
          obtain ⟨rfl, rfl⟩ := e2
          clear t0
          go_wp2
          go_quiet (fail)
          go_wp2
          go_ret2
          exact .inr ⟨by rw [HF.out]; decide, by rw [HF.out]; rfl, bdrewN (hB.alloc hB.size _) _⟩
      · obtain ⟨t1, t2, t3, t4, t10, t11, t12⟩ := from_right hlt hw
        clear hw
        have hbs : Bs wr.heap.size wr ps[k].A ps[k].data := (hPr.bytes ps[k] (List.getElem_mem hlt)).more hB.size
        have hA : ∃ ad, ps[k].A = some ad := by
          obtain ⟨b3, o3, e3, _⟩ := hbs 0 (by rw [bcells_length]; omega)
          exact ⟨_, e3⟩
        obtain ⟨ad, hA⟩ := hA
        rw [hA] at c3 hbs
        have hcM := hM.cell
        have hpl := hM.lt.1
        rcases (show (decide (0 < k) = false) ∨ (decide (0 < k) = true ∧ (1 : Int) ≤ (k : Int) ∧ IntKind.i64.wrap ((k : Int) - 1) = (k : Int) - 1 ∧ ((k : Int) - 1).toNat = k - 1 ∧ (0 : Int) ≤ (k : Int) - 1 ∧ (k : Int) - 1 < (ps.length : Int) ∧
            decide (ps[k].base ≤ (ps[k - 1]'(by omega)).base) = false ∧ wr.cell? ⟨b, o + (k - 1) * 3, none⟩ = some (.int .u64 ((ps[k - 1]'(by omega)).base : Int))) by
          by_cases h0 : k = 0
          · exact .inl (by simp [h0])
          · obtain ⟨b2, o2, e2, hbl2, d1, d2, d3⟩ := hPr.cells (k - 1) (by omega)
            simp only [Option.some.injEq, Addr.mk.injEq, and_true] at e2
            obtain ⟨rfl, rfl⟩ := e2
            exact .inr ⟨by simp; omega, by omega, by rw [IntKind.wrap_i64]; omega, by omega, by omega, by omega, t3 h0, d1⟩) with t5 | ⟨t5, t5b, t5c, t6, t7, t8, t3, d1⟩
        all_goals
          cases ha : allowedB ps[k].perm with
          | false =>
            have hfin : fromE (ps.map PgIn.pg) = 21 := by
              rw [HE.out]
              refine wrongTo_mono (k := k + 1) ?_ (by decide) (by omega)
              simp only [wrongTo, HW.out.1, if_true]
              rw [t12, ha]
              rfl
            have HF := Lib.hid hfin
            clear hfin t12
            go_wp2
            go_quiet (fail)
            go_wp2_with (go_at_call 74; refine (allowed_all _ _).mono ?_; rw [ha]; rintro e w' ⟨rfl, rfl⟩)
            go_ret2
            exact .inr ⟨by rw [HF.out]; decide, by rw [HF.out]; rfl, bdrewN (hB.alloc hB.size _) _⟩
          | true =>
            have hnx : wrongTo (ps.map PgIn.pg) (k + 1) = 0 := by
              simp only [wrongTo, HW.out.1, if_true]
              rw [t12, ha]
              rfl
            have HN := Lib.hid hnx
            clear hnx t12
            go_wp2
            go_quiet (fail)
            go_wp2_with (go_at_call 74; refine (allowed_all _ _).mono ?_; rw [ha]; rintro e w' ⟨rfl, rfl⟩)
            obtain ⟨W1, hW1⟩ : ∃ W1 : World, W1 = ((wr.alloc (.cells #[.int .u64 (ps[k].base : Int), .int .i64 ps[k].perm, .slice (some ad) 4096 ps[k].cap] 112)).drewN nq) := ⟨_, rfl⟩
            rw [← hW1]
            obtain ⟨hBW, hsz, g1, g2, g3, g4⟩ := page_block wr W1 _ _ _ _ hW1 hcM hpl
            have hM1 := hM.below hM.lt hBW
            have hbs1 : Bs W1.heap.size W1 (some ad) ps[k].data := (hbs.below hBW).more (by omega)
            have hno : frAt fs ps[k].base = none := from_fresh HW.out.2 HN.out hlt
            have hM1d : MemAt W1.drew p mb fs := hM1.keep rfl rfl (fun _ _ => rfl)
            have hpm := hM.p_ne_mb
            have hsm : wr.heap.size ≠ mb := Nat.ne_of_gt hM.lt.2.1
            have hlt4 : ∀ f ∈ fs, f.blk < W1.heap.size := fun f hf => (hM1.pages f hf).lt
            have HX := Lib.hid (And.intro hno hlt4)
            clear hW1 c1 c2 c3 hM hbs hcM hno hlt4 t3 hPr
            go_region_held3 (fun w' => w'.cell? ⟨p, 0, none⟩ = some (.map (some mb)) ∧ w'.cell? ⟨wr.heap.size, 0, none⟩ = some (.int .u64 (ps[k].base : Int)) ∧ w'.cell? ⟨wr.heap.size, 1, none⟩ = some (.int .i64 ps[k].perm) ∧ w'.cell? ⟨wr.heap.size, 2, none⟩ = some (.slice (some ad) 4096 ps[k].cap))
              (first | exact ⟨g1, g2, g3, g4⟩ | exact ⟨k1, k2, k3, k4⟩ | exact ⟨(World.cell?_of_block (setObjW_other _ _ _ _ hpm)).trans k1, (World.cell?_of_block (setObjW_other _ _ _ _ hsm)).trans k2, (World.cell?_of_block (setObjW_other _ _ _ _ hsm)).trans k3, (World.cell?_of_block (setObjW_other _ _ _ _ hsm)).trans k4⟩)
              ((go_at_call 49; refine (bclone_n W1.drew ad 4096 ps[k].cap ps[k].data t11 hbs1 (by omega)).mono ?_; rintro e w2 ⟨v, rfl, hown, hne, hb2⟩; obtain ⟨g, cp, O, rfl, hg, hup, hM2⟩ := push_clone (hM1d.below hM1d.lt hb2) hown t11 HX.out.2 HX.out.1 t10; have k1 := (hb2.cell (p := ⟨p, 0, none⟩) (Nat.lt_trans hpl hsz)).trans g1; have k2 := (hb2.cell (p := ⟨wr.heap.size, 0, none⟩) hsz).trans g2; have k3 := (hb2.cell (p := ⟨wr.heap.size, 1, none⟩) hsz).trans g3; have k4 := (hb2.cell (p := ⟨wr.heap.size, 2, none⟩) hsz).trans g4))
            go_wp2
            go_roundw
            case rel =>
              refine ⟨k + 1, fs ++ [⟨ps[k].base, ps[k].perm, g, cp, ps[k].data⟩], by omega, by go_num, HN.out, ?_, hM2, ?_, ?_⟩
              · rw [List.map_append, HW.out.2, take_map_succ PgIn.pg ps k hlt]; rfl
              · intro f hf
                rcases List.mem_append.1 hf with hf | hf
                · exact hge f hf
                · obtain rfl := List.mem_singleton.1 hf
                  have h1 := hB.size
                  have h2 := hBW.size
                  have h3 : W1.heap.size ≤ g := hg
                  exact Nat.le_trans h1 (Nat.le_trans h2 h3)
              · exact below_setObjW ((hB.trans (hBW.mono hB.size)).drew.trans (hb2.mono (Nat.le_trans hB.size hBW.size))) hmb O
            case measure => simp [intOf]; omega
    · have hd3 : decide ((k : Int) < (ps.length : Int)) = false := by simp; omega
      obtain rfl : k = ps.length := by omega
      have hfin : fromE (ps.map PgIn.pg) = 0 := HE.out.trans HW.out.1
      have hfs := HW.out.2
      rw [List.take_length] at hfs
      have HF := Lib.hid (And.intro hfin hfs)
      clear hfin hfs
      go_wp2
      go_ret2
      exact .inl ⟨HF.out.1, p, mb, fs, rfl, HF.out.2, hM, hp, hmb, hge, hB⟩
end Go.Proofs

/- What follows from the contracts of package mem: bytes that were stored are read again; patinalaw02.speaks. -/
namespace Go.Pat
open Go Go.RowKit

theorem pageOf_congr {fs : List Fr} {a b : Nat} (h : a / 4096 = b / 4096) : pageOf fs a = pageOf fs b := by unfold pageOf; rw [h]
theorem pageOf_base {fs : List Fr} {a : Nat} {f : Fr} (h : pageOf fs a = some f) : f.base = a / 4096 * 4096 := by have := List.find?_some h; simpa using this

theorem byteM_setB {fs : List Fr} {a : Nat} {f : Fr} (c : UInt8) (hf : pageOf fs a = some f) (hl : f.data.length = 4096) (b : Nat) :
    byteM (setB fs a c) b = if a = b then c.toNat else byteM fs b := by
  unfold byteM
  rw [pageOf_setB]
  by_cases hp : a / 4096 = b / 4096
  · rw [← pageOf_congr hp, hf]
    simp only [Option.map_some, if_pos (pageOf_base hf)]
    by_cases e : a = b
    · subst e
      rw [if_pos rfl]
      have : a % 4096 < f.data.length := by omega
      simp [List.getD_eq_getElem?_getD, this]
    · rw [if_neg e]
      have h2 : a % 4096 ≠ b % 4096 := by omega
      simp [List.getD_eq_getElem?_getD, h2]
  · have e : a ≠ b := by rintro rfl; exact hp rfl
    rw [if_neg e]
    cases hb : pageOf fs b with
    | none => rfl
    | some g =>
      have hg := pageOf_base hb
      simp only [Option.map_some]
      rw [if_neg (by omega)]
theorem pageOf_store_none {fs : List Fr} {b : Nat} (h : pageOf fs b = none) (at_ v k : Nat) : pageOf (storeTo fs at_ v k) b = none := by
  induction k with
  | zero => exact h
  | succ k ih => rw [storeTo, pageOf_setB, ih]; rfl
def lens (fs : List Fr) : Prop := ∀ f ∈ fs, f.data.length = 4096
theorem lens_setB {fs : List Fr} (h : lens fs) (a : Nat) (c : UInt8) : lens (setB fs a c) := by
  intro f hf
  obtain ⟨g, hg, rfl⟩ := List.mem_map.1 hf
  have := h g hg
  split
  · simpa using this
  · exact this
theorem lens_store {fs : List Fr} (h : lens fs) (at_ v k : Nat) : lens (storeTo fs at_ v k) := by
  induction k with
  | zero => exact h
  | succ k ih => exact lens_setB ih _ _
theorem MemAt.lens {w : World} {p mb : Nat} {fs : List Fr} (h : MemAt w p mb fs) : Go.Pat.lens fs := fun f hf => (h.pages f hf).1

/-- a byte behind a store. -/
theorem byteM_store {fs : List Fr} (hl : lens fs) (at_ v k : Nat) (hp : ∀ i, i < k → ∃ f, pageOf fs (at_ + i) = some f) (b : Nat) :
    byteM (storeTo fs at_ v k) b = if at_ ≤ b ∧ b < at_ + k then v / 256 ^ (b - at_) % 256 else byteM fs b := by
  induction k with
  | zero => rw [if_neg (by omega)]; rfl
  | succ k ih =>
    obtain ⟨f, hf⟩ := hp k (by omega)
    obtain ⟨g, hg, _⟩ := pageOf_store hf at_ v k
    rw [storeTo, byteM_setB _ hg (lens_store hl at_ v k g (List.mem_of_find?_eq_some hg)), ih (fun i hi => hp i (by omega))]
    by_cases e : at_ + k = b
    · subst e
      rw [if_pos rfl, if_pos (by omega), UInt8.toNat_ofNat', show at_ + k - at_ = k by omega]
    · rw [if_neg e]
      by_cases h2 : at_ ≤ b ∧ b < at_ + k
      · rw [if_pos h2, if_pos (by omega)]
      · rw [if_neg h2, if_neg (by omega)]

/-- what is asked hangs on places and permissions alone. -/
theorem askTo_store (fs : List Fr) (at_ v k b : Nat) (perm : Int) (n : Nat) : askTo (storeTo fs at_ v k) b perm n = askTo fs b perm n := by
  induction n with
  | zero => rfl
  | succ n ih =>
    simp only [askTo, ih]
    cases hb : pageOf fs (b + n) with
    | none => rw [pageOf_store_none hb]
    | some f =>
      obtain ⟨g, hg, _, hp, _⟩ := pageOf_store hb at_ v k
      rw [hg]
      simp only [hp]
theorem askedM_store (fs : List Fr) (at_ v k b : Nat) (perm : Int) (n : Nat) : askedM (storeTo fs at_ v k) b n perm = askedM fs b n perm := by
  unfold askedM
  rw [askTo_store]
end Go.Pat
namespace Go.Proofs
open Go Go.RowKit Go.Pat

/-- the memory that speaks asks. -/
theorem speaks_mem {news : List Fr} (h : news.map Fr.pg = fresh 4096 6 (mapN 5000)) :
    askedM news 8190 4 2 = 0 ∧ loadM (storeTo news 8190 67305985 4) 8191 2 = (770, 0) ∧ loadM (storeTo news 8190 67305985 4) 12288 1 = (0, 20) := by
  have h2 : news.map Fr.pg = [⟨4096, 6, zeros⟩, ⟨8192, 6, zeros⟩] := h
  obtain ⟨f0, f1, rfl⟩ : ∃ f0 f1, news = [f0, f1] := by
    have hlen := congrArg List.length h2
    simp only [List.length_map, List.length_cons, List.length_nil] at hlen
    cases news with
    | nil => cases hlen
    | cons f0 r => cases r with
      | nil => cases hlen
      | cons f1 r2 => cases r2 with
        | nil => exact ⟨f0, f1, rfl⟩
        | cons f2 r3 => simp at hlen
  · simp only [List.map_cons, List.map_nil, List.cons.injEq, Fr.pg, Pgd.mk.injEq, and_true] at h2
    obtain ⟨⟨a1, a2, a3⟩, b1, b2, b3⟩ := h2
    have hl : lens [f0, f1] := by
      intro f hf
      simp only [List.mem_cons, List.not_mem_nil, or_false] at hf
      rcases hf with rfl | rfl
      · rw [a3]; exact zeros_length
      · rw [b3]; exact zeros_length
    have p0 : ∀ a, 4096 ≤ a → a < 8192 → pageOf [f0, f1] a = some f0 := by
      intro a h1 h2
      unfold pageOf frAt
      rw [show a / 4096 * 4096 = 4096 by omega]
      simp [a1]
    have p1 : ∀ a, 8192 ≤ a → a < 12288 → pageOf [f0, f1] a = some f1 := by
      intro a h1 h2
      unfold pageOf frAt
      rw [show a / 4096 * 4096 = 8192 by omega]
      simp [a1, b1]
    have p2 : pageOf [f0, f1] 12288 = none := by
      unfold pageOf frAt
      simp [a1, b1]
    have o2 : pOK 6 2 = true := by decide
    have o4 : pOK 6 4 = true := by decide
    have ha : ∀ perm, pOK 6 perm = true → askTo [f0, f1] 8190 perm 4 = 0 ∧ askTo [f0, f1] 8191 perm 2 = 0 := by
      intro perm hp
      constructor
      · simp [askTo, p0 8190 (by omega) (by omega), p0 8191 (by omega) (by omega), p1 8192 (by omega) (by omega), p1 8193 (by omega) (by omega), a2, b2, hp]
      · simp [askTo, p0 8191 (by omega) (by omega), p1 8192 (by omega) (by omega), a2, b2, hp]
    have hpg : ∀ i, i < 4 → ∃ f, pageOf [f0, f1] (8190 + i) = some f := by
      intro i hi
      by_cases e : 8190 + i < 8192
      · exact ⟨f0, p0 _ (by omega) e⟩
      · exact ⟨f1, p1 _ (by omega) (by omega)⟩
    refine ⟨?_, ?_, ?_⟩
    · simp [askedM, (ha 2 o2).1]
    · have e1 : byteM (storeTo [f0, f1] 8190 67305985 4) 8191 = 2 := by rw [byteM_store hl _ _ _ hpg, if_pos (by omega)]
      have e2 : byteM (storeTo [f0, f1] 8190 67305985 4) 8192 = 3 := by rw [byteM_store hl _ _ _ hpg, if_pos (by omega)]
      have e3 : askedM (storeTo [f0, f1] 8190 67305985 4) 8191 2 4 = 0 := by rw [askedM_store]; simp [askedM, (ha 4 o4).2]
      have e4 : wide 2 = true := rfl
      have e5 : Int.toNat 2 = 2 := rfl
      simp only [loadM, e4, e5, e3, if_true, numM, e1, e2]
    · have e3 : askedM (storeTo [f0, f1] 8190 67305985 4) 12288 1 4 = 20 := by rw [askedM_store]; simp [askedM, askTo, p2]
      have e4 : wide 1 = true := rfl
      have e5 : Int.toNat 1 = 1 := rfl
      simp only [loadM, e4, e5, e3, if_true]
      rfl

theorem mapE_speaks : mapE [] 4096 6 5000 = 0 := by decide

end Go.Proofs

/- What the laws of package mem have in common. -/
namespace Go.Pat
open Go Go.RowKit
theorem Cs.mono {B B' : Nat} {w : World} {A : Option Addr} {xs : List Value} (h : Cs B w A xs) (hB : B ≤ B') : Cs B' w A xs := fun i hi => by
  obtain ⟨b, o, e, hlt, r⟩ := h i hi
  exact ⟨b, o, e, Nat.lt_of_lt_of_le hlt hB, r⟩
theorem PgsAt.mono {B B' : Nat} {w : World} {A : Option Addr} {ps : List PgIn} (h : PgsAt B w A ps) (hB : B ≤ B') : PgsAt B' w A ps := by
  refine ⟨fun i hi => ?_, fun p hp => (h.bytes p hp).mono hB, h.small, h.few⟩
  obtain ⟨b, o, e, hlt, r⟩ := h.cells i hi
  exact ⟨b, o, e, Nat.lt_of_lt_of_le hlt hB, r⟩

end Go.Pat
namespace Go.Proofs
open Go Go.RowKit Go.Pat

theorem From_all (w : World) (A : Option Addr) (cap : Nat) (ps : List PgIn) (hP : PgsAt w.heap.size w A ps) :
    Calls Tryz.prog 55 #[.slice A ps.length cap] w (FromPost w ps) := by
  by_cases h : ps.length ≤ 4096
  · exact From_any w A cap ps hP h
  · have e20 : fromE (ps.map PgIn.pg) = 20 := by unfold fromE; rw [if_pos (by simp; omega)]
    refine (From_many w A ps.length cap (by omega) hP.few).mono ?_
    rintro e w' ⟨rfl, rfl⟩
    exact .inr ⟨by rw [e20]; decide, by rw [e20], Below.refl _ _⟩

theorem case_cells (w : World) (a b c d : Value) (t : Nat) {w1 : World} (hb : Below (w.alloc (.cells #[a, b, c, d] t)).heap.size (w.alloc (.cells #[a, b, c, d] t)) w1) :
    w1.cell? ⟨w.heap.size, 0, none⟩ = some a ∧ w1.cell? ⟨w.heap.size, 1, none⟩ = some b ∧ w1.cell? ⟨w.heap.size, 2, none⟩ = some c ∧ w1.cell? ⟨w.heap.size, 3, none⟩ = some d := by
  have hs : w.heap.size < (w.alloc (.cells #[a, b, c, d] t)).heap.size := by simp
  refine ⟨(hb.cell (p := ⟨w.heap.size, 0, none⟩) hs).trans ?_, (hb.cell (p := ⟨w.heap.size, 1, none⟩) hs).trans ?_, (hb.cell (p := ⟨w.heap.size, 2, none⟩) hs).trans ?_, (hb.cell (p := ⟨w.heap.size, 3, none⟩) hs).trans ?_⟩
  all_goals
    unfold World.cell?
    rw [show (w.alloc (.cells #[a, b, c, d] t)).heap[w.heap.size]? = some (.cells #[a, b, c, d] t) from Array.getElem?_push_size]
    rfl
end Go.Proofs
