/- Plain facts about the model's memory, for any program: looking up and writing maps, and blocks. -/
import Derived.WalkKit
import Derived.MapKept
import Derived.WideMake
import Derived.Test.YtlhenglopnipaaaGreatDoorProg
import Derived.BigQuiet
import Derived.Lib.Hide
namespace Go.Pat
open Go Go.RowKit
open Go.MapKept (IsKey run_checkKey run_findKey run_setObj_map run_keyThatStays)

section
variable {P : Program} {w : World} {xT kT eT mb clock i : Nat} {es : Array MapEntry} {d : TypeDesc} {k v : Value}

theorem run_lookup_hit (hx : P.underlying xT = some (.map kT eT)) (hk : P.underlying kT = some d) (hkey : IsKey d k)
    (h : w.heap[mb]? = some (.map es clock)) (hf : Instr.findNow d k es.toList 0 = some (some (i, v))) (ok : Bool) :
    (Instr.lookup xT (.map (some mb)) k ok).run P w = .ok (if ok then .tuple #[v, .bool true] else v) w := by
  unfold Instr.lookup
  simp only [Sem.run_bind, run_underlying hx, Result.andThen_ok, Go.MapKept.run_getObj_map h, run_checkKey hk hkey, run_findKey hk hf, Sem.run_pure]

theorem run_lookup_miss (hx : P.underlying xT = some (.map kT eT)) (hk : P.underlying kT = some d) (hkey : IsKey d k)
    (h : w.heap[mb]? = some (.map es clock)) (hf : Instr.findNow d k es.toList 0 = some none)
    (hz : (zeroValue eT).run P w = .ok v w) (ok : Bool) :
    (Instr.lookup xT (.map (some mb)) k ok).run P w = .ok (if ok then .tuple #[v, .bool false] else v) w := by
  unfold Instr.lookup
  simp only [Sem.run_bind, run_underlying hx, Result.andThen_ok, Go.MapKept.run_getObj_map h, run_checkKey hk hkey, run_findKey hk hf, hz, Sem.run_pure]

theorem run_lookup_nil (hx : P.underlying xT = some (.map kT eT)) (hk : P.underlying kT = some d) (hkey : IsKey d k)
    (hz : (zeroValue eT).run P w = .ok v w) (ok : Bool) :
    (Instr.lookup xT (.map none) k ok).run P w = .ok (if ok then .tuple #[v, .bool false] else v) w := by
  unfold Instr.lookup
  have hf : Instr.findNow d k (#[] : Array MapEntry).toList 0 = some none := rfl
  simp only [Sem.run_bind, run_underlying hx, Result.andThen_ok, run_checkKey hk hkey, run_findKey hk hf, hz, Sem.run_pure]

/-- The world in which block r is another object. -/
def setObjW (w : World) (r : Nat) (o : Obj) : World := { w with heap := w.heap.setIfInBounds r o }

theorem run_mapUpdate_new (hx : P.underlying xT = some (.map kT eT)) (hk : P.underlying kT = some d) (hkey : IsKey d k)
    (h : w.heap[mb]? = some (.map es clock)) (hf : Instr.findNow d k es.toList 0 = some none) :
    (Instr.mapUpdate xT (.map (some mb)) k v).run P w = .ok () (setObjW w mb (.map (es.push { key := k, val := v, born := clock }) (clock + 1))) := by
  unfold Instr.mapUpdate
  simp only [Sem.run_bind, run_underlying hx, Result.andThen_ok, Go.MapKept.run_getObj_map h, run_checkKey hk hkey, run_findKey hk hf, run_setObj_map _ h, setObjW]

theorem run_mapUpdate_old {v0 : Value} {e : MapEntry} (hx : P.underlying xT = some (.map kT eT)) (hk : P.underlying kT = some d) (hkey : IsKey d k)
    (h : w.heap[mb]? = some (.map es clock)) (hf : Instr.findNow d k es.toList 0 = some (some (i, v0))) (he : es[i]? = some e) (hek : e.key = k) :
    (Instr.mapUpdate xT (.map (some mb)) k v).run P w = .ok () (setObjW w mb (.map (es.modify i fun e => { e with key := k, val := v }) clock)) := by
  unfold Instr.mapUpdate
  simp only [Sem.run_bind, run_underlying hx, Result.andThen_ok, Go.MapKept.run_getObj_map h, run_checkKey hk hkey, run_findKey hk hf, he, Option.map_some, Option.getD_some, hek, run_keyThatStays hkey, run_setObj_map _ h, setObjW]
end
end Go.Pat

/- The memory of package mem as the model holds it: a block for the struct, a block for the map, a block for each page. -/
namespace Go.Pat
open Go Go.RowKit
open Go.MapKept (IsKey)

theorem Tryz_und_map : Go.Proofs.Tryz.prog.underlying 139 = some (.map 32 138) := by kernel_rfl
theorem Tryz_und_u64 : Go.Proofs.Tryz.prog.underlying 32 = some (.int .u64) := by kernel_rfl
theorem Tryz_zero_frame (w : World) : (zeroValue 138).run Go.Proofs.Tryz.prog w = .ok (.agg #[.int .i64 0, .slice none 0 0]) w := by kernel_rfl

/-- a page as it is kept: where its bytes lie. -/
structure Fr where
  base : Nat
  perm : Int
  blk : Nat
  cap : Nat
  data : List UInt8

def Fr.val (f : Fr) : Value := .agg #[.int .i64 f.perm, .slice (some ⟨f.blk, 0, none⟩) 4096 f.cap]
def Fr.ent (f : Fr) (i : Nat) : MapEntry := { key := .int .u64 f.base, val := f.val, born := i }
def ents : Nat → List Fr → List MapEntry
  | _, [] => []
  | i, f :: fs => f.ent i :: ents (i + 1) fs

theorem ents_length (i : Nat) (fs : List Fr) : (ents i fs).length = fs.length := by
  induction fs generalizing i with
  | nil => rfl
  | cons f fs ih => simp [ents, ih]
theorem ents_append (i : Nat) (fs gs : List Fr) : ents i (fs ++ gs) = ents i fs ++ ents (i + fs.length) gs := by
  induction fs generalizing i with
  | nil => simp [ents]
  | cons f fs ih => simp [ents, ih, Nat.add_assoc, Nat.add_comm 1]

def frAt (fs : List Fr) (k : Nat) : Option Fr := fs.find? (fun f => f.base == k)

theorem findNow_ents (k : Nat) : ∀ (fs : List Fr) (j i : Nat), Instr.findNow (.int .u64) (.int .u64 k) (ents j fs) i =
    some ((fs.findIdx? (fun f => f.base == k)).bind fun n => (fs[n]?).map fun f => (i + n, f.val))
  | [], j, i => by simp [ents, Instr.findNow]
  | f :: fs, j, i => by
    have ih := findNow_ents k fs (j + 1) (i + 1)
    simp only [ents, Instr.findNow, Fr.ent, Instr.sameNow]
    by_cases h : f.base = k
    · subst h; simp [List.findIdx?_cons]
    · have h1 : ((k : Int) == (f.base : Int)) = false := by simp; omega
      have h2 : (f.base == k) = false := by simpa using h
      simp only [h1, if_true, ih, List.findIdx?_cons, h2]
      cases hc : fs.findIdx? (fun f => f.base == k) with
      | none => simp
      | some n => simp [Nat.add_assoc, Nat.add_comm 1]

theorem find_of_idx {α : Type} (p : α → Bool) (l : List α) : (l.findIdx? p).bind (fun n => l[n]?) = l.find? p := by
  induction l with
  | nil => simp
  | cons a l ih =>
    by_cases h : p a
    · simp [List.findIdx?_cons, h]
    · simp only [List.findIdx?_cons, h, List.find?_cons, ← ih]
      cases l.findIdx? p <;> simp

theorem findNow_some {fs : List Fr} {k : Nat} {f : Fr} (h : frAt fs k = some f) : ∃ n, Instr.findNow (.int .u64) (.int .u64 k) (ents 0 fs).toArray.toList 0 = some (some (n, f.val)) := by
  have hfn := findNow_ents k fs 0 0
  have hi := find_of_idx (fun f : Fr => f.base == k) fs
  rw [show fs.find? _ = some f from h] at hi
  cases hc : fs.findIdx? (fun f => f.base == k) with
  | none => rw [hc] at hi; simp at hi
  | some n =>
    rw [hc] at hi hfn
    simp only [Option.bind_some] at hi hfn
    rw [hi] at hfn
    exact ⟨0 + n, hfn⟩
theorem findNow_none {fs : List Fr} {k : Nat} (h : frAt fs k = none) : Instr.findNow (.int .u64) (.int .u64 k) (ents 0 fs).toArray.toList 0 = some none := by
  have hfn := findNow_ents k fs 0 0
  have hi : fs.findIdx? (fun f => f.base == k) = none := by
    rw [List.findIdx?_eq_none_iff]
    intro x hx
    have := List.find?_eq_none.1 h x hx
    simpa using this
  rw [hi] at hfn
  exact hfn

/-- a page's bytes lie in its block. -/
def FrIn (w : World) (f : Fr) : Prop :=
  f.data.length = 4096 ∧ 4096 ≤ f.cap ∧ f.cap ≤ maxLen ∧ ∃ cur : Array Value, w.heap[f.blk]? = some (.cells cur 5 (0, 0)) ∧ cur.size = f.cap ∧
    ∀ i, (h : i < f.data.length) → cur[i]? = some (.int .u8 (f.data[i]).toNat)

/-- the memory behind the pointer to block p, its map in block mb. -/
structure MemAt (w : World) (p mb : Nat) (fs : List Fr) : Prop where
  str : w.heap[p]? = some (.cells #[.map (some mb)] 141 (0, 0))
  map : w.heap[mb]? = some (.map (ents 0 fs).toArray fs.length)
  pages : ∀ f ∈ fs, FrIn w f
  apart : (fs.map (·.blk)).Nodup
  keys : (fs.map (·.base)).Nodup
  small : ∀ f ∈ fs, f.base < 281474976710656

/-- all its blocks lie below B. -/
def MemBelow (B p mb : Nat) (fs : List Fr) : Prop := p < B ∧ mb < B ∧ ∀ f ∈ fs, f.blk < B

theorem FrIn.keep {w w' : World} {f : Fr} (h : FrIn w f) (hk : w'.heap[f.blk]? = w.heap[f.blk]?) : FrIn w' f := by
  obtain ⟨h1, h2, h3, cur, h4, h5⟩ := h
  exact ⟨h1, h2, h3, cur, hk.trans h4, h5⟩
theorem MemAt.keep {w w' : World} {p mb : Nat} {fs : List Fr} (h : MemAt w p mb fs) (hp : w'.heap[p]? = w.heap[p]?) (hm : w'.heap[mb]? = w.heap[mb]?)
    (hf : ∀ f ∈ fs, w'.heap[f.blk]? = w.heap[f.blk]?) : MemAt w' p mb fs :=
  ⟨hp.trans h.str, hm.trans h.map, fun f hfm => (h.pages f hfm).keep (hf f hfm), h.apart, h.keys, h.small⟩
theorem MemAt.below {w w' : World} {p mb B : Nat} {fs : List Fr} (h : MemAt w p mb fs) (hB : MemBelow B p mb fs) (hb : Below B w w') : MemAt w' p mb fs :=
  h.keep (hb.block p hB.1) (hb.block mb hB.2.1) (fun f hf => hb.block f.blk (hB.2.2 f hf))
theorem MemAt.lt {w : World} {p mb : Nat} {fs : List Fr} (h : MemAt w p mb fs) : MemBelow w.heap.size p mb fs := by
  refine ⟨lt_of_block h.str, lt_of_block h.map, fun f hf => ?_⟩
  obtain ⟨_, _, _, cur, h4, _⟩ := h.pages f hf
  exact lt_of_block h4

theorem MemAt.cell {w : World} {p mb : Nat} {fs : List Fr} (h : MemAt w p mb fs) : w.cell? ⟨p, 0, none⟩ = some (.map (some mb)) := cell_of_one h.str
theorem FrIn.cell {w : World} {f : Fr} (h : FrIn w f) (i : Nat) (hi : i < f.data.length) : w.cell? ⟨f.blk, i, none⟩ = some (.int .u8 (f.data[i]).toNat) := by
  obtain ⟨_, _, _, cur, h4, _, h6⟩ := h
  rw [cell_of_row w f.blk i cur _ _ h4]
  exact h6 i hi

section
variable {w : World} {p mb : Nat} {fs : List Fr} {k : Nat}
theorem MemAt.look {f : Fr} (h : MemAt w p mb fs) (hf : frAt fs k = some f) :
    (Instr.lookup 139 (.map (some mb)) (.int .u64 k) true).run Go.Proofs.Tryz.prog w = .ok (.tuple #[.agg #[.int .i64 f.perm, .slice (some ⟨f.blk, 0, none⟩) 4096 f.cap], .bool true]) w := by
  obtain ⟨n, hn⟩ := findNow_some hf
  exact run_lookup_hit Tryz_und_map Tryz_und_u64 (by simp [IsKey]) h.map hn true
theorem MemAt.look_none (h : MemAt w p mb fs) (hf : frAt fs k = none) :
    (Instr.lookup 139 (.map (some mb)) (.int .u64 k) true).run Go.Proofs.Tryz.prog w = .ok (.tuple #[.agg #[.int .i64 0, .slice none 0 0], .bool false]) w :=
  run_lookup_miss Tryz_und_map Tryz_und_u64 (by simp [IsKey]) h.map (findNow_none hf) (Tryz_zero_frame w) true
end
end Go.Pat

/- The walks of package mem's small functions. -/
namespace Go.Proofs
open Go Go.RowKit Go.Pat

set_option maxHeartbeats 400000 in
theorem page_hit (w : World) (p mb : Nat) (fs : List Fr) (hM : MemAt w p mb fs) (at_ : Nat) (hat : at_ < 18446744073709551616) (f : Fr) (hf : frAt fs (at_ / 4096 * 4096) = some f) :
    Calls Tryz.prog 110 #[.pointer (some ⟨p, 0, none⟩), .int .u64 at_] w fun e w' =>
      e = .returned (.tuple #[.agg #[.int .i64 f.perm, .slice (some ⟨f.blk, 0, none⟩) 4096 f.cap], .bool true]) ∧ Below w.heap.size w w' := by
  have hc := hM.cell
  have hk : ((at_ / 4096 * 4096 : Nat) : Int) = (at_ : Int) / 4096 * 4096 := by omega
  have hl := fun o : Obj => (hM.below hM.lt ((Below.refl w.heap.size w).alloc (Nat.le_refl _) o)).look hf
  rw [hk] at hl
  clear hk
  have hcl := fun o : Obj => (hM.below hM.lt ((Below.refl w.heap.size w).alloc (Nat.le_refl _) o)).cell
  go_enter Tryz.func110, Tryz.ntmps110
  go_wp2
  exact bodyPost_ret (v := .tuple #[.agg #[.int .i64 f.perm, .slice (some ⟨f.blk, 0, none⟩) 4096 f.cap], .bool true]) (by simp [results, Tryz.results110, go_sem]) rfl
    ⟨rfl, ((Below.refl _ _).alloc (Nat.le_refl _) _).alloc (by simp) _⟩

set_option maxHeartbeats 400000 in
theorem page_miss (w : World) (p mb : Nat) (fs : List Fr) (hM : MemAt w p mb fs) (at_ : Nat) (hat : at_ < 18446744073709551616) (hf : frAt fs (at_ / 4096 * 4096) = none) :
    Calls Tryz.prog 110 #[.pointer (some ⟨p, 0, none⟩), .int .u64 at_] w fun e w' =>
      e = .returned (.tuple #[.agg #[.int .i64 0, .slice none 0 0], .bool false]) ∧ Below w.heap.size w w' := by
  have hc := hM.cell
  have hk : ((at_ / 4096 * 4096 : Nat) : Int) = (at_ : Int) / 4096 * 4096 := by omega
  have hl := fun o : Obj => (hM.below hM.lt ((Below.refl w.heap.size w).alloc (Nat.le_refl _) o)).look_none hf
  rw [hk] at hl
  clear hk
  have hcl := fun o : Obj => (hM.below hM.lt ((Below.refl w.heap.size w).alloc (Nat.le_refl _) o)).cell
  go_enter Tryz.func110, Tryz.ntmps110
  go_wp2
  exact bodyPost_ret (v := .tuple #[.agg #[.int .i64 0, .slice none 0 0], .bool false]) (by simp [results, Tryz.results110, go_sem]) rfl
    ⟨rfl, ((Below.refl _ _).alloc (Nat.le_refl _) _).alloc (by simp) _⟩

/-- a memory that is none has no pages. -/
theorem page_nil (w : World) (at_ : Int) :
    Calls Tryz.prog 110 #[.pointer none, .int .u64 at_] w fun e w' =>
      e = .returned (.tuple #[.agg #[.int .i64 0, .slice none 0 0], .bool false]) ∧ Below w.heap.size w w' := by
  go_enter Tryz.func110, Tryz.ntmps110
  go_wp2
  exact bodyPost_ret (v := .tuple #[.agg #[.int .i64 0, .slice none 0 0], .bool false]) (by simp [results, Tryz.results110, go_sem]) rfl
    ⟨rfl, ((Below.refl _ _).alloc (Nat.le_refl _) _)⟩

/-- what a look for a page tells. -/
def pageVal : Option Fr → Value
  | some f => .tuple #[.agg #[.int .i64 f.perm, .slice (some ⟨f.blk, 0, none⟩) 4096 f.cap], .bool true]
  | none => .tuple #[.agg #[.int .i64 0, .slice none 0 0], .bool false]
end Go.Proofs

/- (*Mem).asked: what is wrong with a use of bytes. -/
namespace Go.Pat
open Go Go.RowKit

/-- may the page be used so? -/
def pOK (q p : Int) : Bool := bits BinOp.and .i64 q p == p

def pageOf (fs : List Fr) (a : Nat) : Option Fr := frAt fs (a / 4096 * 4096)

/-- the first k bytes from a place on: 20: one is not there; 21: one may not be used so; 0. -/
def askTo (fs : List Fr) (at_ : Nat) (perm : Int) : Nat → Int
  | 0 => 0
  | k + 1 => if askTo fs at_ perm k = 20 then 20 else match pageOf fs (at_ + k) with
    | none => 20
    | some f => if pOK f.perm perm then askTo fs at_ perm k else 21

def askedM (fs : List Fr) (at_ n : Nat) (perm : Int) : Int :=
  if 281474976710656 ≤ at_ ∨ 281474976710656 - at_ < n then 1 else askTo fs at_ perm n

theorem askTo_range (fs : List Fr) (at_ : Nat) (perm : Int) (k : Nat) : askTo fs at_ perm k = 0 ∨ askTo fs at_ perm k = 20 ∨ askTo fs at_ perm k = 21 := by
  induction k with
  | zero => exact .inl rfl
  | succ k ih =>
    simp only [askTo]
    split
    · exact .inr (.inl rfl)
    · split
      · exact .inr (.inl rfl)
      · split
        · exact ih
        · exact .inr (.inr rfl)
theorem askTo_20 (fs : List Fr) (at_ : Nat) (perm : Int) (k j : Nat) (h : askTo fs at_ perm k = 20) (hj : k ≤ j) : askTo fs at_ perm j = 20 := by
  induction j with
  | zero => obtain rfl : k = 0 := by omega
            exact h
  | succ j ih =>
    by_cases hk : k = j + 1
    · subst hk; exact h
    · simp [askTo, ih (by omega)]
end Go.Pat
namespace Go.Proofs
open Go Go.RowKit Go.Pat

set_option maxRecDepth 100000 in
set_option maxHeartbeats 400000 in
theorem asked_arg (w : World) (p : Value) (at_ n : Nat) (perm : Int) (hat : at_ < 18446744073709551616) (hn : n < 1000000) (h : 281474976710656 ≤ at_ ∨ 281474976710656 - at_ < n) :
    Calls Tryz.prog 103 #[p, .int .u64 at_, .int .i64 n, .int .i64 perm] w fun e w' => e = .returned (.int .i64 1) ∧ w = w' := by
  by_cases h1 : 281474976710656 ≤ at_
  · have hd : decide ((281474976710656 : Int) ≤ (at_ : Int)) = true := by simp; omega
    clear h
    go_enter Tryz.func103, Tryz.ntmps103
    go_wp2
    go_ret
    exact ⟨rfl, rfl⟩
  · have hd : decide ((281474976710656 : Int) ≤ (at_ : Int)) = false := by simp; omega
    have hd2 : decide ((281474976710656 : Int) - (at_ : Int) < (n : Int)) = true := by simp; omega
    clear h
    go_enter Tryz.func103, Tryz.ntmps103
    go_wp2
    go_ret
    exact ⟨rfl, rfl⟩

set_option maxHeartbeats 1000000 in
theorem asked_any (w : World) (p mb : Nat) (fs : List Fr) (hM : MemAt w p mb fs) (at_ n : Nat) (perm : Int) (hat : at_ < 18446744073709551616) (hn : n < 1000000) (h : ¬ (281474976710656 ≤ at_ ∨ 281474976710656 - at_ < n)) :
    Calls Tryz.prog 103 #[.pointer (some ⟨p, 0, none⟩), .int .u64 at_, .int .i64 n, .int .i64 perm] w fun e w' => e = .returned (.int .i64 (askTo fs at_ perm n)) ∧ Below w.heap.size w w' := by
  have h1 : at_ + n ≤ 281474976710656 := by omega
  have hd : decide ((281474976710656 : Int) ≤ (at_ : Int)) = false := by simp; omega
  have hd2 : decide ((281474976710656 : Int) - (at_ : Int) < (n : Int)) = false := by simp; omega
  clear h
  go_enter Tryz.func103, Tryz.ntmps103
  go_wp2
  go_loopw [24, 9] (fun i may wr => ∃ k : Nat, k ≤ n ∧ i = .int .u64 k ∧ may = .int .i64 (askTo fs at_ perm k) ∧ askTo fs at_ perm k ≠ 20 ∧ Below w.heap.size w wr) (fun i _ _ => n - (intOf i).toNat)
  case atStart => exact ⟨0, by omega, rfl, rfl, by simp [askTo], Below.refl _ _⟩
  case round =>
    obtain ⟨k, hk, rfl, rfl, hne, hB⟩ := hrel
    have hM' := hM.below hM.lt hB
    by_cases hlt : k < n
    · have hd3 : decide ((k : Int) < (n : Int)) = true := by simp; omega
      cases hf : pageOf fs (at_ + k) with
      | none =>
        have hfin : askTo fs at_ perm n = 20 := askTo_20 fs at_ perm (k + 1) n (by simp [askTo, hf]) (by omega)
        have HF := Lib.hid hfin
        clear hfin hne
        go_wp2_with (go_at_call 110; refine (page_miss _ p mb fs hM' (at_ + k) (by omega) hf).mono ?_; rintro e w' ⟨rfl, hb⟩)
        go_ret
        refine ⟨by rw [HF.out]; rfl, (hB.trans (hb.mono hB.size)).alloc (by have := hb.size; have := hB.size; omega) _⟩
      | some f =>
        cases hp : pOK f.perm perm with
        | true =>
          have hp2 : (bits BinOp.and IntKind.i64 f.perm perm != perm) = false := by unfold pOK at hp; simp [bne, hp]
          have hnx : askTo fs at_ perm (k + 1) = askTo fs at_ perm k := by simp [askTo, hf, hp, hne]
          have HN := Lib.hid hnx
          have HE := Lib.hid hne
          clear hp hnx hne
          go_wp2_with (go_at_call 110; refine (page_hit _ p mb fs hM' (at_ + k) (by omega) f hf).mono ?_; rintro e w' ⟨rfl, hb⟩)
          go_roundw
          case rel => exact ⟨k + 1, by omega, by go_num, by rw [HN.out], by rw [HN.out]; exact HE.out, (hB.trans (hb.mono hB.size)).alloc (by have := hb.size; have := hB.size; omega) _⟩
          case measure => simp [intOf]; omega
        | false =>
          have hp2 : (bits BinOp.and IntKind.i64 f.perm perm != perm) = true := by unfold pOK at hp; simp [bne, hp]
          have hnx : askTo fs at_ perm (k + 1) = 21 := by simp [askTo, hf, hp, hne]
          have HN := Lib.hid hnx
          clear hp hnx hne
          go_wp2_with (go_at_call 110; refine (page_hit _ p mb fs hM' (at_ + k) (by omega) f hf).mono ?_; rintro e w' ⟨rfl, hb⟩)
          go_roundw
          case rel => exact ⟨k + 1, by omega, by go_num, by rw [HN.out], by rw [HN.out]; decide, (hB.trans (hb.mono hB.size)).alloc (by have := hb.size; have := hB.size; omega) _⟩
          case measure => simp [intOf]; omega
    · have hd3 : decide ((k : Int) < (n : Int)) = false := by simp; omega
      obtain rfl : n = k := by omega
      clear hne
      go_wp2
      go_ret
      exact ⟨rfl, hB⟩
end Go.Proofs

/- (*Mem).number, Load, Fetch. -/
namespace Go.Pat
open Go Go.RowKit

def byteM (fs : List Fr) (a : Nat) : Nat := match pageOf fs a with
  | some f => (f.data.getD (a % 4096) 0).toNat
  | none => 0
def numM (fs : List Fr) (at_ : Nat) : Nat → Nat
  | 0 => 0
  | k + 1 => numM fs at_ k + byteM fs (at_ + k) * 256 ^ k
theorem byteM_lt (fs : List Fr) (a : Nat) : byteM fs a < 256 := by
  unfold byteM
  split
  · exact UInt8.toNat_lt _
  · omega
theorem numM_lt (fs : List Fr) (at_ k : Nat) : numM fs at_ k < 256 ^ k := by
  induction k with
  | zero => simp [numM]
  | succ k ih =>
    have := byteM_lt fs (at_ + k)
    have h2 : byteM fs (at_ + k) * 256 ^ k ≤ 255 * 256 ^ k := Nat.mul_le_mul_right _ (by omega)
    simp only [numM, Nat.pow_succ]
    omega

theorem pow_256 (k : Nat) : 256 ^ k = 2 ^ (8 * k) := by
  rw [show (256 : Nat) = 2 ^ 8 from rfl, ← Nat.pow_mul]
theorem pow_256_le {k : Nat} (hk : k < 8) : 256 ^ (k + 1) ≤ 18446744073709551616 :=
  Nat.le_trans (Nat.pow_le_pow_right (by omega) (show k + 1 ≤ 8 by omega)) (by decide)
theorem join_byte (a b k : Nat) (ha : a < 256 ^ k) (hb : b < 256) (hk : k < 8) :
    bits BinOp.or IntKind.u64 (a : Int) (IntKind.u64.wrap (IntKind.u64.wrap (b : Int) * 2 ^ (8 * k))) = ((a + b * 256 ^ k : Nat) : Int) := by
  have h1 := pow_256_le hk
  have h2 : b * 256 ^ k ≤ 255 * 256 ^ k := Nat.mul_le_mul_right _ (by omega)
  have h3 : 256 ^ (k + 1) = 256 ^ k * 256 := Nat.pow_succ ..
  have e0 : IntKind.u64.wrap (b : Int) = (b : Int) := by rw [IntKind.wrap_u64]; omega
  have e1 : (b : Int) * 2 ^ (8 * k) = ((b * 256 ^ k : Nat) : Int) := by rw [pow_256]; push_cast; rfl
  have e2 : IntKind.u64.wrap ((b * 256 ^ k : Nat) : Int) = ((b * 256 ^ k : Nat) : Int) := by rw [IntKind.wrap_u64]; omega
  rw [e0, e1, e2, u64_or_nat a _ (by omega) (by omega), Nat.or_comm, nat_join (8 * k) (b * 256 ^ k) a (by rw [pow_256]; exact Nat.mul_mod_left _ _) (by rw [← pow_256]; exact ha)]
  congr 1
  omega
end Go.Pat
namespace Go.Proofs
open Go Go.RowKit Go.Pat

set_option maxHeartbeats 1000000 in
theorem number_any (w : World) (p mb : Nat) (fs : List Fr) (hM : MemAt w p mb fs) (at_ n : Nat) (hat : at_ + n ≤ 281474976710656) (hn : n ≤ 8) (hp : ∀ i, i < n → ∃ f, pageOf fs (at_ + i) = some f) :
    Calls Tryz.prog 104 #[.pointer (some ⟨p, 0, none⟩), .int .u64 at_, .int .i64 n] w fun e w' => e = .returned (.int .u64 (numM fs at_ n)) ∧ Below w.heap.size w w' := by
  go_enter Tryz.func104, Tryz.ntmps104
  go_wp2
  go_loopw [13, 7] (fun i v wr => ∃ k : Nat, k ≤ n ∧ i = .int .i64 k ∧ v = .int .u64 (numM fs at_ k) ∧ Below w.heap.size w wr) (fun i _ _ => n - (intOf i).toNat)
  case atStart => exact ⟨0, by omega, rfl, rfl, Below.refl _ _⟩
  case round =>
    obtain ⟨k, hk, rfl, rfl, hB⟩ := hrel
    have hM' := hM.below hM.lt hB
    by_cases hlt : k < n
    · have hd3 : decide ((k : Int) < (n : Int)) = true := by simp; omega
      obtain ⟨f, hf⟩ := hp k hlt
      have hF' : FrIn wr f := hM'.pages f (List.mem_of_find?_eq_some hf)
      have hi : (at_ + k) % 4096 < f.data.length := by rw [hF'.1]; omega
      have hbl : f.blk < wr.heap.size := by obtain ⟨_, _, _, cur, h4, _⟩ := hF'; exact lt_of_block h4
      have hcl : ∀ W o1 : _, Below wr.heap.size wr W → ((W.alloc o1).cell? ⟨f.blk, (at_ + k) % 4096, none⟩ = some (.int .u8 ((f.data[(at_ + k) % 4096]).toNat : Int))) := by
        intro W o1 hb
        rw [(hb.alloc hb.size o1).cell (p := ⟨f.blk, _, none⟩) hbl]
        exact hF'.cell _ hi
      go_wp2_with (go_at_call 110; refine (page_hit _ p mb fs hM' (at_ + k) (by omega) f hf).mono ?_; rintro e w' ⟨rfl, hb⟩; have hcl' := fun o => hcl w' o hb)
      have hby : (f.data[(at_ + k) % 4096]).toNat = byteM fs (at_ + k) := by simp [byteM, hf, List.getD, hi]
      have hjb := join_byte (numM fs at_ k) ((f.data[(at_ + k) % 4096]).toNat) k (numM_lt _ _ _) (UInt8.toNat_lt _) (by omega)
      go_roundw
      case rel => exact ⟨k + 1, by omega, by go_num, by rw [hjb, hby]; rfl, (hB.trans (hb.mono hB.size)).alloc (by have := hb.size; have := hB.size; omega) _⟩
      case measure => simp [intOf]; omega
    · have hd3 : decide ((k : Int) < (n : Int)) = false := by simp; omega
      obtain rfl : n = k := by omega
      go_wp2
      go_ret
      exact ⟨rfl, hB⟩

theorem asked_ok {fs : List Fr} {at_ n : Nat} {perm : Int} (h : askTo fs at_ perm n = 0) : ∀ i, i < n → ∃ f, pageOf fs (at_ + i) = some f ∧ pOK f.perm perm = true := by
  induction n with
  | zero => intro i hi; omega
  | succ n ih =>
    simp only [askTo] at h
    split at h
    · cases h
    · split at h
      · cases h
      · rename_i f hf
        split at h
        · rename_i hp
          intro i hi
          by_cases e : i = n
          · subst e; exact ⟨f, hf, hp⟩
          · exact ih h i (by omega)
        · cases h
end Go.Proofs

/- (*Mem).Load and Fetch: the numbers that are read. -/
namespace Go.Pat
open Go Go.RowKit

/-- the error of asked, whatever the count. -/
def wide (n : Int) : Bool := n == 1 || n == 2 || n == 4 || n == 8

def loadM (fs : List Fr) (at_ : Nat) (n : Int) : Nat × Int :=
  if wide n then (if askedM fs at_ n.toNat 4 = 0 then (numM fs at_ n.toNat, 0) else (0, askedM fs at_ n.toNat 4)) else (0, 1)

def fetchM (fs : List Fr) (at_ : Nat) : Nat × Int :=
  if at_ % 4 ≠ 0 ∨ 281474976710656 ≤ at_ then (0, 1) else if askedM fs at_ 4 1 = 0 then (numM fs at_ 4, 0) else (0, askedM fs at_ 4 1)
end Go.Pat
namespace Go.Proofs
open Go Go.RowKit Go.Pat

theorem asked_all (w : World) (p mb : Nat) (fs : List Fr) (hM : MemAt w p mb fs) (at_ n : Nat) (perm : Int) (hat : at_ < 18446744073709551616) (hn : n < 1000000) :
    Calls Tryz.prog 103 #[.pointer (some ⟨p, 0, none⟩), .int .u64 at_, .int .i64 n, .int .i64 perm] w fun e w' => e = .returned (.int .i64 (askedM fs at_ n perm)) ∧ Below w.heap.size w w' := by
  by_cases h : 281474976710656 ≤ at_ ∨ 281474976710656 - at_ < n
  · refine (asked_arg w _ at_ n perm hat hn h).mono ?_
    rintro e w' ⟨rfl, rfl⟩
    exact ⟨by simp only [askedM, if_pos h], Below.refl _ _⟩
  · refine (asked_any w p mb fs hM at_ n perm hat hn h).mono ?_
    rintro e w' ⟨rfl, hb⟩
    exact ⟨by simp only [askedM, if_neg h], hb⟩

theorem asked_zero {fs : List Fr} {at_ n : Nat} {perm : Int} (h : askedM fs at_ n perm = 0) : at_ + n ≤ 281474976710656 ∧ at_ < 281474976710656 ∧ ∀ i, i < n → ∃ f, pageOf fs (at_ + i) = some f ∧ pOK f.perm perm = true := by
  unfold askedM at h
  split at h
  · cases h
  · exact ⟨by omega, by omega, asked_ok h⟩

theorem width_all (n : Int) (w : World) : Calls Tryz.prog 109 #[.int .i64 n] w fun e w' => e = .returned (.bool (wide n)) ∧ w = w' := by
  unfold wide
  cases h1 : n == 1 <;> cases h2 : n == 2 <;> cases h3 : n == 4 <;> cases h4 : n == 8
  all_goals
    go_enter Tryz.func109, Tryz.ntmps109
    go_wp2
    try go_ret
    first | exact ⟨rfl, rfl⟩ | (exfalso; simp at *; omega)

set_option maxHeartbeats 1000000 in
theorem Load_any (w : World) (p mb : Nat) (fs : List Fr) (hM : MemAt w p mb fs) (at_ : Nat) (n : Int) (hat : at_ < 18446744073709551616) :
    Calls Tryz.prog 107 #[.pointer (some ⟨p, 0, none⟩), .int .u64 at_, .int .i64 n] w fun e w' => e = .returned (.tuple #[.int .u64 (loadM fs at_ n).1, .int .i64 (loadM fs at_ n).2]) ∧ Below w.heap.size w w' := by
  cases hw : wide n with
  | false =>
    have hfin : loadM fs at_ n = (0, 1) := by simp [loadM, hw]
    have HF := Lib.hid hfin
    clear hfin
    go_enter Tryz.func107, Tryz.ntmps107
    go_wp2_with (go_at_call 109; refine (width_all _ _).mono ?_; rw [hw]; rintro e w' ⟨rfl, rfl⟩)
    go_ret2
    exact ⟨by rw [HF.out]; rfl, Below.refl _ _⟩
  | true =>
    obtain ⟨k, rfl, hk⟩ : ∃ k : Nat, n = k ∧ (k ≤ 8) := by
      simp [wide] at hw
      exact ⟨n.toNat, by omega, by omega⟩
    by_cases h0 : askedM fs at_ k 4 = 0
    · have hfin : loadM fs at_ k = (numM fs at_ k, 0) := by simp [loadM, hw, h0]
      have HF := Lib.hid hfin
      clear hfin
      obtain ⟨z1, z2, z3⟩ := asked_zero h0
      have h0' : (askedM fs at_ k 4 != 0) = false := by simp [h0]
      have H0 := Lib.hid h0
      clear h0
      go_enter Tryz.func107, Tryz.ntmps107
      go_wp2_with (first | (go_at_call 109; refine (width_all _ _).mono ?_; rw [hw]; rintro e w' ⟨rfl, rfl⟩) | (go_at_call 103; refine (asked_all _ p mb fs hM at_ k 4 hat (by omega)).mono ?_; rintro e w' ⟨rfl, hb⟩) | (go_at_call 104; refine (number_any _ p mb fs (hM.below hM.lt hb) at_ k z1 hk (fun i hi => (z3 i hi).imp fun _ h => h.1)).mono ?_; rintro e w2 ⟨rfl, hb2⟩))
      go_ret2
      exact ⟨by rw [HF.out]; rfl, hb.trans (hb2.mono hb.size)⟩
    · have hfin : loadM fs at_ k = (0, askedM fs at_ k 4) := by simp [loadM, hw, h0]
      have HF := Lib.hid hfin
      clear hfin
      have h0' : (askedM fs at_ k 4 != 0) = true := by simp [h0]
      clear h0
      go_enter Tryz.func107, Tryz.ntmps107
      go_wp2_with (first | (go_at_call 109; refine (width_all _ _).mono ?_; rw [hw]; rintro e w' ⟨rfl, rfl⟩) | (go_at_call 103; refine (asked_all _ p mb fs hM at_ k 4 hat (by omega)).mono ?_; rintro e w' ⟨rfl, hb⟩))
      go_ret2
      exact ⟨by rw [HF.out]; rfl, hb⟩
end Go.Proofs
