/- patinaref02.written: pages with bytes written. -/
import Derived.Test.YtkgnodlhdilmoaaRMap
import Derived.Test.YtkgnodlhdilmoaaStoreA
namespace Go.Pat
open Go Go.RowKit Go.Proofs

/-- bytes are written one behind the other. -/
def wrF (fs : List Fr) (at_ : Nat) (bs : List UInt8) : Nat → List Fr
  | 0 => fs
  | k + 1 => setB (wrF fs at_ bs k) (at_ + k) (bs.getD k 0)
theorem sh_wrF (fs : List Fr) (at_ : Nat) (bs : List UInt8) (k : Nat) : (wrF fs at_ bs k).map Fr.sh = fs.map Fr.sh := by
  induction k with
  | zero => rfl
  | succ k ih => rw [wrF, sh_setB, ih]
theorem ok_setB {fs : List Fr} (h : PsOK (fs.map Fr.pg)) (a : Nat) (c : UInt8) : PsOK ((setB fs a c).map Fr.pg) := by
  constructor
  · intro p hp
    obtain ⟨g, hg, rfl⟩ := List.mem_map.1 hp
    obtain ⟨f, hf, rfl⟩ := List.mem_map.1 hg
    have h1 := h.ok f.pg (List.mem_map.2 ⟨f, hf, rfl⟩)
    split
    · exact ⟨h1.page, h1.top, by rw [show (Fr.pg { f with data := f.data.set (a % 4096) c }).data = f.data.set (a % 4096) c from rfl, List.length_set]; exact h1.len, h1.perm⟩
    · exact h1
  · have h2 : fs.Pairwise (fun a b => a.base < b.base) := by
      have h3 := h.rises
      rw [List.pairwise_map] at h3
      exact h3
    exact List.pairwise_map.2 (rises_sh (sh_setB fs a c) h2)
theorem ok_wrF {fs : List Fr} (h : PsOK (fs.map Fr.pg)) (at_ : Nat) (bs : List UInt8) (k : Nat) : PsOK ((wrF fs at_ bs k).map Fr.pg) := by
  induction k with
  | zero => exact h
  | succ k ih => exact ok_setB ih _ _
theorem page_wrF {fs : List Fr} {b : Nat} (h : ∃ f, pageOf fs b = some f) (at_ : Nat) (bs : List UInt8) (k : Nat) : ∃ f, pageOf (wrF fs at_ bs k) b = some f := by
  induction k with
  | zero => exact h
  | succ k ih =>
    obtain ⟨f, hf⟩ := ih
    exact ⟨_, by rw [wrF, pageOf_setB, hf]; rfl⟩

theorem setB_pg_at {F : List Fr} {L : List Pgd} (hF : F.map Fr.pg = L) (hok : PsOK L) {a k : Nat} {f : Fr} (hk : k < L.length) (hf : pageOf F a = some f) (hL : L[k] = f.pg) (c : UInt8) :
    (setB F a c).map Fr.pg = L.set k ⟨f.base, f.perm, f.data.set (a % 4096) c⟩ := by
  have hb := pageOf_base hf
  rw [pg_setB, hF]
  unfold setP
  apply List.ext_getElem?
  intro i
  rw [List.getElem?_map, List.getElem?_set]
  by_cases e : k = i
  · subst e
    rw [if_pos rfl, if_pos hk, List.getElem?_eq_getElem hk, hL, Option.map_some, updP_hit (p := f.pg) hb]
    rfl
  · rw [if_neg e]
    cases hi : L[i]? with
    | none => rfl
    | some p =>
      obtain ⟨hil, hp⟩ := List.getElem?_eq_some_iff.1 hi
      rw [Option.map_some, updP_miss]
      intro hpb
      have h1 : L[k].base = p.base := by rw [hL, hpb]; exact hb
      have h2 := List.pairwise_iff_getElem.1 hok.rises
      rcases Nat.lt_or_gt_of_ne e with h | h
      · have := h2 k i hk hil h; rw [hp] at this; omega
      · have := h2 i k hil hk h; rw [hp] at this; omega

theorem PgsAt.cs {B : Nat} {w : World} {A : Option Addr} {ps : List PgIn} (h : PgsAt B w A ps) : Cs B w A (pcells ps) := fun t ht => by
  rw [pcells_length] at ht
  have h1 : t / 3 < ps.length := by omega
  obtain ⟨b, o, rfl, hb, c0, c1, c2⟩ := h.cells (t / 3) h1
  have h2 := pcells_get ps (t / 3) h1 (t % 3) (Nat.mod_lt _ (by decide))
  rw [show t / 3 * 3 + t % 3 = t by omega, List.getElem?_eq_getElem (by rw [pcells_length]; exact ht)] at h2
  refine ⟨b, o, rfl, hb, ?_⟩
  rw [h2]
  have h3 : t % 3 = 0 ∨ t % 3 = 1 ∨ t % 3 = 2 := by omega
  rcases h3 with e | e | e
  · rw [e]
    have e2 : o + t = o + t / 3 * 3 := by omega
    rw [e2]; exact c0
  · rw [e]
    have e2 : o + t = o + t / 3 * 3 + 1 := by omega
    rw [e2]; exact c1
  · rw [e]
    have e2 : o + t = o + t / 3 * 3 + 2 := by omega
    rw [e2]; exact c2

/-- pages in a slice of the call's own; those whose bytes are the call's own have them alone. -/
structure WrPs (w : World) (B0 B1 : Nat) (v : Value) (ss : List PgIn) : Prop where
  ref : RefPs w B0 B1 v ss
  apart : ∀ i j (hi : i < ss.length) (hj : j < ss.length), i ≠ j → ∀ a b : Addr, ss[i].A = some a → ss[j].A = some b → B0 ≤ a.block → a.block ≠ b.block
theorem WrPs.below {w w' : World} {B0 B1 : Nat} {v : Value} {ss : List PgIn} (h : WrPs w B0 B1 v ss) (hB : B0 ≤ w.heap.size) (hb : Below w.heap.size w w') : WrPs w' B0 B1 v ss := ⟨h.ref.below hB hb, h.apart⟩

theorem bcells_set (l : List UInt8) (i : Nat) (c : UInt8) : (bcells l).set i (.int .u8 (c.toNat : Int)) = bcells (l.set i c) := by
  unfold bcells
  rw [show (Value.int .u8 (c.toNat : Int)) = bval c from rfl, ← List.map_set]
theorem OwnB.set1 {w : World} {base g n cap : Nat} {l : List UInt8} (h : OwnB w base (.slice (some ⟨g, 0, none⟩) n cap) l) (hn : l.length = n) (i : Nat) (c : UInt8) :
    OwnB (w.setCell ⟨g, i, none⟩ (.int .u8 (c.toNat : Int))) base (.slice (some ⟨g, 0, none⟩) n cap) (l.set i c) := by
  subst hn
  unfold OwnB at h ⊢
  have := (h.stored i (.int .u8 (c.toNat : Int))).1
  rw [bcells_set] at this
  rw [List.length_set]
  exact this

/-- a byte of a page that is the call's own. -/
theorem WrPs.byte {w : World} {B0 B1 g cap k : Nat} {v : Value} {ss : List PgIn} (h : WrPs w B0 B1 v ss) (hk : k < ss.length) (hA : ss[k].A = some ⟨g, 0, none⟩) (hown : OwnB w B0 (.slice (some ⟨g, 0, none⟩) ss[k].data.length cap) ss[k].data) (hc : ss[k].cap = cap) (i : Nat) (c : UInt8) :
    WrPs (w.setCell ⟨g, i, none⟩ (.int .u8 (c.toNat : Int))) B0 B1 v (ss.set k ⟨ss[k].base, ss[k].perm, ss[k].A, ss[k].cap, ss[k].data.set i c⟩) := by
  obtain ⟨hg0, cur, hgb⟩ := hown.block (g := g) rfl
  have hkeep : ∀ x, x ≠ g → (w.setCell ⟨g, i, none⟩ (.int .u8 (c.toNat : Int))).heap[x]? = w.heap[x]? := fun x hx => Below.heap_setCell _ _ _ _ hx
  have hlen : ss.length = (ss.set k ⟨ss[k].base, ss[k].perm, ss[k].A, ss[k].cap, ss[k].data.set i c⟩).length := by simp
  have hAs : ∀ j (hj : j < (ss.set k ⟨ss[k].base, ss[k].perm, ss[k].A, ss[k].cap, ss[k].data.set i c⟩).length), ((ss.set k ⟨ss[k].base, ss[k].perm, ss[k].A, ss[k].cap, ss[k].data.set i c⟩)[j]).A = (ss[j]'(by rw [hlen]; exact hj)).A := fun j hj => by
    rw [List.getElem_set]
    by_cases e : k = j
    · subst e; rw [if_pos rfl]
    · rw [if_neg e]
  refine ⟨⟨h.ref.le, ?_, fun s hs => ?_, fun s hs => ?_⟩, fun a b ha hb hne x y hx hy => ?_⟩
  · have hrow : OwnP (w.setCell ⟨g, i, none⟩ (.int .u8 (c.toNat : Int))) B1 v ss := h.ref.row.keep fun x hx => by
      obtain ⟨_, cur2, hc2⟩ := h.ref.row.block hx
      refine hkeep x ?_
      rintro rfl
      rw [hgb] at hc2
      cases hc2
    unfold OwnP at hrow ⊢
    rw [← hlen]
    have : pcells (ss.set k ⟨ss[k].base, ss[k].perm, ss[k].A, ss[k].cap, ss[k].data.set i c⟩) = pcells ss := by
      have e1 : ∀ l : List PgIn, pcells l = (l.map PgIn.cells).flatten := fun l => by
        induction l with
        | nil => rfl
        | cons x l ih => simp [pcells, ih]
      rw [e1, e1, List.map_set]
      congr 1
      apply List.ext_getElem?
      intro t
      rw [List.getElem?_set]
      by_cases e : k = t
      · subst e; simp [hk, PgIn.cells]
      · rw [if_neg e]
    rw [this]
    exact hrow
  · obtain ⟨j, hj, rfl⟩ := List.getElem_of_mem hs
    rw [List.getElem_set]
    by_cases e : k = j
    · subst e
      rw [if_pos rfl]
      right
      rw [hA, hc]
      simp only [List.length_set]
      exact OwnB.set1 hown rfl i c
    · rw [if_neg e]
      have hj2 : j < ss.length := by rw [hlen]; exact hj
      rcases h.ref.bytes ss[j] (List.getElem_mem hj2) with hb | hb
      · exact .inl (hb.below ((Below.refl B0 w).setCell (p := ⟨g, i, none⟩) hg0 _))
      · refine .inr (hb.keep fun x hx => hkeep x ?_)
        rintro rfl
        cases hAj : ss[j].A with
        | none => rw [hAj] at hx; cases hx
        | some a =>
          rw [hAj] at hx
          have hax : a.block = x := Option.some.inj hx
          exact h.apart k j hk hj2 e ⟨x, 0, none⟩ a hA hAj hg0 hax.symm
  · rcases List.mem_or_eq_of_mem_set hs with hs | rfl
    · exact h.ref.small s hs
    · have := h.ref.small ss[k] (List.getElem_mem hk)
      exact ⟨this.1, by simpa using this.2⟩
  · rw [hAs] at hx hy
    exact h.apart a b (by rw [hlen]; exact ha) (by rw [hlen]; exact hb) hne x y hx hy

theorem pcells_set (ss : List PgIn) (k : Nat) (hk : k < ss.length) (s : PgIn) :
    ((((pcells ss).set (k * 3) (.int .u64 (s.base : Int))).set (k * 3 + 1) (.int .i64 s.perm)).set (k * 3 + 2) (.slice s.A s.data.length s.cap)) = pcells (ss.set k s) := by
  induction ss generalizing k with
  | nil => simp at hk
  | cons x r ih =>
    cases k with
    | zero => simp [pcells, PgIn.cells]
    | succ k =>
      have := ih k (by simpa using hk)
      rw [show (k + 1) * 3 = k * 3 + 3 by omega, show k * 3 + 3 + 1 = k * 3 + 1 + 3 by omega, show k * 3 + 3 + 2 = k * 3 + 2 + 3 by omega]
      simp only [pcells, PgIn.cells, List.cons_append, List.nil_append, List.set_cons_succ]
      rw [this]

/-- a page gets bytes of its own. -/
theorem WrPs.copy {w : World} {B0 B1 g n cap k : Nat} {ss : List PgIn} (h : WrPs w B0 B1 (.slice (some ⟨g, 0, none⟩) n cap) ss) (hn : ss.length = n) (hk : k < ss.length) (A' : Option Addr) (c' : Nat)
    (hsb : OwnB w B0 (.slice A' ss[k].data.length c') ss[k].data) (hnew : ∀ j (hj : j < ss.length) (a b : Addr), A' = some a → ss[j].A = some b → a.block ≠ b.block) :
    WrPs (((w.setCell ⟨g, k * 3, none⟩ (.int .u64 (ss[k].base : Int))).setCell ⟨g, k * 3 + 1, none⟩ (.int .i64 ss[k].perm)).setCell ⟨g, k * 3 + 2, none⟩ (.slice A' ss[k].data.length c')) B0 B1 (.slice (some ⟨g, 0, none⟩) n cap) (ss.set k ⟨ss[k].base, ss[k].perm, A', c', ss[k].data⟩) := by
  subst hn
  obtain ⟨hg0, cur, hgb⟩ := h.ref.row.block (g := g) rfl
  have h0 := h.ref.row
  unfold OwnP at h0
  have h1 := (h0.stored (k * 3) (.int .u64 (ss[k].base : Int))).1
  have h2 := (h1.stored (k * 3 + 1) (.int .i64 ss[k].perm)).1
  have h3 := (h2.stored (k * 3 + 2) (.slice A' ss[k].data.length c')).1
  rw [pcells_set ss k hk ⟨ss[k].base, ss[k].perm, A', c', ss[k].data⟩] at h3
  have hkeep : ∀ x, x ≠ g → (((w.setCell ⟨g, k * 3, none⟩ (.int .u64 (ss[k].base : Int))).setCell ⟨g, k * 3 + 1, none⟩ (.int .i64 ss[k].perm)).setCell ⟨g, k * 3 + 2, none⟩ (.slice A' ss[k].data.length c')).heap[x]? = w.heap[x]? := fun x hx => by
    rw [Below.heap_setCell _ _ _ _ hx, Below.heap_setCell _ _ _ _ hx, Below.heap_setCell _ _ _ _ hx]
  have hB : Below B0 w (((w.setCell ⟨g, k * 3, none⟩ (.int .u64 (ss[k].base : Int))).setCell ⟨g, k * 3 + 1, none⟩ (.int .i64 ss[k].perm)).setCell ⟨g, k * 3 + 2, none⟩ (.slice A' ss[k].data.length c')) :=
    (((Below.refl B0 w).setCell (p := ⟨g, _, none⟩) (Nat.le_trans h.ref.le hg0) _).setCell (p := ⟨g, _, none⟩) (Nat.le_trans h.ref.le hg0) _).setCell (p := ⟨g, _, none⟩) (Nat.le_trans h.ref.le hg0) _
  have keepO : ∀ v l, OwnB w B0 v l → OwnB (((w.setCell ⟨g, k * 3, none⟩ (.int .u64 (ss[k].base : Int))).setCell ⟨g, k * 3 + 1, none⟩ (.int .i64 ss[k].perm)).setCell ⟨g, k * 3 + 2, none⟩ (.slice A' ss[k].data.length c')) B0 v l := fun v l hb => hb.keep fun x hx => by
    obtain ⟨_, cur2, hc2⟩ := hb.block hx
    refine hkeep x ?_
    rintro rfl
    rw [hgb] at hc2
    cases hc2
  refine ⟨⟨h.ref.le, ?_, fun s hs => ?_, fun s hs => ?_⟩, fun a b ha hb hne x y hx hy => ?_⟩
  · unfold OwnP
    rw [List.length_set]
    exact h3
  · rcases List.mem_or_eq_of_mem_set hs with hs | rfl
    · exact (h.ref.bytes s hs).imp (fun x => x.below hB) (keepO _ _)
    · exact .inr (keepO _ _ hsb)
  · rcases List.mem_or_eq_of_mem_set hs with hs | rfl
    · exact h.ref.small s hs
    · exact h.ref.small ss[k] (List.getElem_mem hk)
  · rw [List.length_set] at ha hb
    rw [List.getElem_set] at hx hy
    by_cases ea : k = a
    · rw [if_pos ea] at hx
      rw [if_neg (fun e => hne (ea.symm.trans e))] at hy
      exact fun _ => hnew b hb x y hx hy
    · rw [if_neg ea] at hx
      by_cases eb : k = b
      · rw [if_pos eb] at hy
        have := hnew a ha y x hy hx
        exact fun _ => fun e => this e.symm
      · rw [if_neg eb] at hy
        exact h.apart a b ha hb hne x y hx hy
end Go.Pat
namespace Go.Proofs
open Go Go.RowKit Go.Pat

/-- where the byte lies in its page. -/
theorem wr_page {fs : List Fr} {qs : List PgIn} {a : Nat} (hq : qs.map PgIn.pg = fs.map Fr.pg) (hok : PsOK (fs.map Fr.pg)) (hf : ∃ f, pageOf fs a = some f) :
    ∃ k, ∃ hk : k < qs.length, findI (qs.map PgIn.pg) a = (k : Int) ∧ qs[k].base ≤ a ∧ a - qs[k].base = a % 4096 ∧ qs[k].data.length = 4096 ∧ qs[k].base < 281474976710656 ∧
      ∀ c, (setB fs a c).map Fr.pg = (qs.set k ⟨qs[k].base, qs[k].perm, qs[k].A, qs[k].cap, qs[k].data.set (a % 4096) c⟩).map PgIn.pg := by
  obtain ⟨f, hf⟩ := hf
  rcases find_page (fs := fs) rfl hok a with ⟨h1, _⟩ | ⟨g, k, hk, h1, h2, h3⟩
  · rw [hf] at h1; cases h1
  · rw [hf] at h1
    cases h1
    have hkq : k < qs.length := by have := congrArg List.length hq; simp at this hk; omega
    have hqk : qs[k].pg = f.pg := by
      have h4 : (qs.map PgIn.pg)[k]'(by rw [List.length_map]; exact hkq) = (fs.map Fr.pg)[k] := by simp only [hq]
      rw [List.getElem_map] at h4
      rw [h4, h2]
    have hO := hok.ok f.pg (by rw [← h2]; exact List.getElem_mem _)
    have hb := pageOf_base hf
    have e1 : qs[k].base = f.base := congrArg Pgd.base hqk
    have e2 : qs[k].perm = f.perm := congrArg Pgd.perm hqk
    have e3 : qs[k].data = f.data := congrArg Pgd.data hqk
    refine ⟨k, hkq, by rw [hq]; exact h3, by omega, by omega, by rw [e3]; exact hO.len, by rw [e1]; exact hO.top, fun c => ?_⟩
    rw [setB_pg_at rfl hok hk hf h2 c, ← hq, List.map_set, e1, e2, e3]
    rfl

theorem row_cells {w : World} {B0 B1 n c k : Nat} {A : Option Addr} {qs : List PgIn} (h : WrPs w B0 B1 (.slice A n c) qs) (hk : k < qs.length) :
    ∃ g, A = some ⟨g, 0, none⟩ ∧ B1 ≤ g ∧ g < w.heap.size ∧ w.cell? ⟨g, k * 3, none⟩ = some (.int .u64 (qs[k].base : Int)) ∧ w.cell? ⟨g, k * 3 + 1, none⟩ = some (.int .i64 qs[k].perm) ∧ w.cell? ⟨g, k * 3 + 2, none⟩ = some (.slice qs[k].A qs[k].data.length qs[k].cap) ∧
      w.frozen? ⟨g, k * 3, none⟩ = false ∧ w.frozen? ⟨g, k * 3 + 1, none⟩ = false ∧ w.frozen? ⟨g, k * 3 + 2, none⟩ = false := by
  have h0 := h.ref.row
  rcases h0.2 with ⟨e, h1⟩ | ⟨g, cap, cur, e, hg, hh, hn, hm, hc, ht⟩
  · omega
  · simp only [Value.slice.injEq] at e
    obtain ⟨rfl, rfl, rfl⟩ := e
    have cell : ∀ j, j < 3 → w.cell? ⟨g, k * 3 + j, none⟩ = (qs[k].cells)[j]? := fun j hj => by
      rw [obj_cell hh, ← pcells_get qs k hk j hj]
      have h2 : (cur.toList.take (qs.length * 3))[k * 3 + j]? = (pcells qs)[k * 3 + j]? := by rw [ht]
      rw [List.getElem?_take, if_pos (by omega)] at h2
      simpa using h2
    exact ⟨g, rfl, hg, lt_of_block hh, cell 0 (by omega), cell 1 (by omega), cell 2 (by omega), obj_frozen hh _, obj_frozen hh _, obj_frozen hh _⟩
theorem own_page {w : World} {B0 cap : Nat} {A : Option Addr} {l : List UInt8} (h : OwnB w B0 (.slice A 4096 cap) l) :
    ∃ gk, A = some ⟨gk, 0, none⟩ ∧ B0 ≤ gk ∧ gk < w.heap.size ∧ (∀ i, i < 4096 → ∃ u : UInt8, w.cell? ⟨gk, i, none⟩ = some (.int .u8 (u.toNat : Int))) ∧ ∀ i, w.frozen? ⟨gk, i, none⟩ = false := by
  rcases h.2 with ⟨e, h1⟩ | ⟨g, cap', cur, e, hg, hh, hn, hm, hc, ht⟩
  · cases e
  · simp only [Value.slice.injEq] at e
    obtain ⟨rfl, hl, rfl⟩ := e
    refine ⟨g, rfl, hg, lt_of_block hh, fun i hi => ?_, fun i => obj_frozen hh i⟩
    have h2 : (cur.toList.take (l.length * 1))[i]? = (bcells l)[i]? := by rw [ht]
    have hil : i < l.length := by omega
    rw [List.getElem?_take, if_pos (by omega)] at h2
    refine ⟨l[i], ?_⟩
    rw [obj_cell hh]
    simp [bcells, bval, hil] at h2
    rw [h2]
theorem own_ne {w : World} {B0 B1 n c gk cap m : Nat} {g : Nat} {qs : List PgIn} {l : List UInt8} (h : WrPs w B0 B1 (.slice (some ⟨g, 0, none⟩) n c) qs) (hown : OwnB w B0 (.slice (some ⟨gk, 0, none⟩) m cap) l) (_ : m = m) : gk ≠ g := by
  obtain ⟨_, cur, hc⟩ := hown.block (g := gk) rfl
  obtain ⟨_, cur2, hc2⟩ := h.ref.row.block (g := g) rfl
  rintro rfl
  rw [hc] at hc2
  cases hc2

theorem drewP {w : World} {B0 B1 : Nat} {v : Value} {ss : List PgIn} (h : WrPs w B0 B1 v ss) : WrPs w.drew B0 B1 v ss := ⟨⟨h.ref.le, h.ref.row, h.ref.bytes, h.ref.small⟩, h.apart⟩
/-- what a byte that is written leaves. -/
theorem wr_byte {w : World} {B0 n c k gk a off : Nat} {v : Value} {qs : List PgIn} {fs : List Fr} {c8 : UInt8} (hW : WrPs w B0 B0 v qs) (hk : k < qs.length) (hA : qs[k].A = some ⟨gk, 0, none⟩) (hown : OwnB w B0 (.slice qs[k].A qs[k].data.length qs[k].cap) qs[k].data)
    (hoff : off = a % 4096) (hset : ∀ c, (setB fs a c).map Fr.pg = (qs.set k ⟨qs[k].base, qs[k].perm, qs[k].A, qs[k].cap, qs[k].data.set (a % 4096) c⟩).map PgIn.pg) (hql : qs.length = n) {W : World} (hBW : Below B0 W w) (_ : c = c) :
    ∃ qs', qs'.length = n ∧ WrPs (w.setCell ⟨gk, off, none⟩ (.int .u8 (c8.toNat : Int))) B0 B0 v qs' ∧ qs'.map PgIn.pg = (setB fs a c8).map Fr.pg ∧
      (∀ kk (h : kk < qs'.length), (k : Int) = (kk : Int) → OwnB (w.setCell ⟨gk, off, none⟩ (.int .u8 (c8.toNat : Int))) B0 (.slice qs'[kk].A qs'[kk].data.length qs'[kk].cap) qs'[kk].data) ∧ Below B0 W (w.setCell ⟨gk, off, none⟩ (.int .u8 (c8.toNat : Int))) := by
  have hown2 := hown
  rw [hA] at hown2
  have hg := (hown2.block (g := gk) rfl).1
  refine ⟨_, by rw [List.length_set]; exact hql, hW.byte hk hA hown2 rfl off c8, by rw [hset, ← hoff], fun kk h e => ?_, hBW.setCell (p := ⟨gk, off, none⟩) hg _⟩
  obtain rfl : k = kk := by omega
  simp only [List.getElem_set_self, List.length_set]
  rw [hA]
  exact OwnB.set1 hown2 rfl off c8

/-- a page gets bytes of its own, and then a byte is written. -/
theorem wr_copied {w wr w4 : World} {B0 n c1 g k off a : Nat} {A3 : Option Addr} {c3 : Nat} {qs : List PgIn} {F : List Fr} (hW : WrPs wr B0 B0 (.slice (some ⟨g, 0, none⟩) n c1) qs) (hk : k < qs.length) (hB0 : B0 ≤ wr.heap.size) (hql : qs.length = n) (hBw : Below B0 w wr)
    (hdl : qs[k].data.length = 4096) (hq : qs.map PgIn.pg = F.map Fr.pg) (hok : PsOK (F.map Fr.pg)) (hpf : ∃ f, pageOf F a = some f) (hfk : findI (qs.map PgIn.pg) a = (k : Int)) (hoff : off = a % 4096)
    (h4 : Below wr.heap.size wr w4) (hown4 : OwnB w4 wr.heap.size (.slice A3 4096 c3) qs[k].data) :
    ∃ gk, A3 = some ⟨gk, 0, none⟩ ∧ B0 ≤ gk ∧ gk ≠ g ∧ ∃ W5, W5 = (((w4.setCell ⟨g, k * 3, none⟩ (.int .u64 (qs[k].base : Int))).setCell ⟨g, k * 3 + 1, none⟩ (.int .i64 qs[k].perm)).setCell ⟨g, k * 3 + 2, none⟩ (.slice A3 4096 c3)) ∧ Below B0 w W5 ∧
      W5.cell? ⟨g, k * 3, none⟩ = some (.int .u64 (qs[k].base : Int)) ∧ W5.cell? ⟨g, k * 3 + 1, none⟩ = some (.int .i64 qs[k].perm) ∧ W5.cell? ⟨g, k * 3 + 2, none⟩ = some (.slice A3 4096 c3) ∧ (∃ u : UInt8, W5.cell? ⟨gk, off, none⟩ = some (.int .u8 (u.toNat : Int))) ∧ W5.frozen? ⟨gk, off, none⟩ = false ∧
      ∀ c8 : UInt8, ∃ qs', qs'.length = n ∧ WrPs (W5.setCell ⟨gk, off, none⟩ (.int .u8 (c8.toNat : Int))) B0 B0 (.slice (some ⟨g, 0, none⟩) n c1) qs' ∧ qs'.map PgIn.pg = (setB F a c8).map Fr.pg ∧
      (∀ kk (h : kk < qs'.length), (k : Int) = (kk : Int) → OwnB (W5.setCell ⟨gk, off, none⟩ (.int .u8 (c8.toNat : Int))) B0 (.slice qs'[kk].A qs'[kk].data.length qs'[kk].cap) qs'[kk].data) ∧ Below B0 w (W5.setCell ⟨gk, off, none⟩ (.int .u8 (c8.toNat : Int))) := by
  obtain ⟨gk, rfl, hgk, hgl, hu, hf⟩ := own_page hown4
  have hW4 := hW.below hB0 h4
  have hown4' : OwnB w4 B0 (.slice (some ⟨gk, 0, none⟩) qs[k].data.length c3) qs[k].data := by rw [hdl]; exact hown4.base hB0
  have hg0 := (hW.ref.row.block (g := g) rfl).1
  have hgw : g < wr.heap.size := by
    obtain ⟨_, cur, hc⟩ := hW.ref.row.block (g := g) rfl
    exact lt_of_block hc
  have hne : gk ≠ g := by omega
  have hcp := hW4.copy hql hk (some ⟨gk, 0, none⟩) c3 hown4' (fun j hj x y hx hy => by
    cases hx
    rcases hW.ref.bytes qs[j] (List.getElem_mem hj) with hb | hb
    · intro e
      have e : gk = y.block := e
      have h1 : 0 < qs[j].data.length := by
        have h2 := (hok.ok qs[j].pg (by rw [← hq]; exact List.mem_map.2 ⟨_, List.getElem_mem hj, rfl⟩)).len
        have h2 : qs[j].data.length = 4096 := h2
        omega
      obtain ⟨b2, o2, e2, hlt, _⟩ := hb.at_ 0 h1
      rw [hy] at e2
      cases e2
      have e : gk = b2 := e
      omega
    · intro e
      have e : gk = y.block := e
      obtain ⟨_, cur, hc⟩ := hb.block (g := y.block) (by rw [hy]; rfl)
      have := lt_of_block hc
      omega)
  rw [hdl] at hcp
  obtain ⟨W5, hW5⟩ : ∃ W5, W5 = (((w4.setCell ⟨g, k * 3, none⟩ (.int .u64 (qs[k].base : Int))).setCell ⟨g, k * 3 + 1, none⟩ (.int .i64 qs[k].perm)).setCell ⟨g, k * 3 + 2, none⟩ (.slice (some ⟨gk, 0, none⟩) 4096 c3)) := ⟨_, rfl⟩
  rw [← hW5] at hcp
  have hk2 : k < (qs.set k ⟨qs[k].base, qs[k].perm, some ⟨gk, 0, none⟩, c3, qs[k].data⟩).length := by rw [List.length_set]; exact hk
  have hself : (qs.set k ⟨qs[k].base, qs[k].perm, some ⟨gk, 0, none⟩, c3, qs[k].data⟩)[k]'hk2 = ⟨qs[k].base, qs[k].perm, some ⟨gk, 0, none⟩, c3, qs[k].data⟩ := List.getElem_set_self _
  have hq2 : (qs.set k ⟨qs[k].base, qs[k].perm, some ⟨gk, 0, none⟩, c3, qs[k].data⟩).map PgIn.pg = F.map Fr.pg := by
    rw [List.map_set, ← hq]
    apply List.ext_getElem?
    intro i
    rw [List.getElem?_set]
    by_cases e : k = i
    · subst e; simp [hk, PgIn.pg]
    · rw [if_neg e]
  have hkeep : ∀ x, x ≠ g → W5.heap[x]? = w4.heap[x]? := fun x hx => by
    rw [hW5, Below.heap_setCell _ _ _ _ hx, Below.heap_setCell _ _ _ _ hx, Below.heap_setCell _ _ _ _ hx]
  have hB5 : Below B0 w W5 := by
    rw [hW5]
    exact ((((hBw.trans (h4.mono hB0))).setCell (p := ⟨g, _, none⟩) hg0 _).setCell (p := ⟨g, _, none⟩) hg0 _).setCell (p := ⟨g, _, none⟩) hg0 _
  obtain ⟨g2, e2, _, _, c0, c1', c2', _, _, _⟩ := row_cells hcp hk2
  cases e2
  rw [hself] at c0 c1' c2'
  obtain ⟨u, hu⟩ := hu off (by rw [hoff]; exact Nat.mod_lt _ (by decide))
  refine ⟨gk, rfl, by omega, hne, W5, hW5, hB5, c0, c1', by rw [← hdl]; exact c2', ⟨u, (World.cell?_of_block (hkeep gk hne)).trans hu⟩, (World.frozen?_of_block (hkeep gk hne)).trans (hf off), fun c8 => ?_⟩
  obtain ⟨k3, hk3, hfk3, _, _, _, _, hset⟩ := wr_page hq2 hok hpf
  have e3 : k3 = k := by
    rw [hq2, ← hq, hfk] at hfk3
    omega
  subst e3
  exact wr_byte (c := 0) hcp hk3 (by rw [hself]) (by
    rw [hself]
    show OwnB W5 B0 (.slice (some ⟨gk, 0, none⟩) qs[k3].data.length c3) qs[k3].data
    exact hown4'.keep fun x hx => hkeep x (by have : some gk = some x := hx; cases this; exact hne)) hoff hset (by rw [List.length_set]; exact hql) hB5 rfl

set_option maxRecDepth 20000 in
set_option maxHeartbeats 8000000 in
theorem rwritten2_any (w : World) (A : Option Addr) (n c : Nat) (ps : List PgIn) (fs : List Fr) (hP : PgsAt w.heap.size w A ps) (hn : ps.length = n) (hn9 : n ≤ 90000) (hfs : fs.map Fr.pg = ps.map PgIn.pg) (hok : PsOK (ps.map PgIn.pg)) (at_ : Nat)
    (Ab : Option Addr) (nb cb : Nat) (bs : List UInt8) (hBs : Bs w.heap.size w Ab bs) (hnb : bs.length = nb) (hat : at_ + nb ≤ 281474976710656) (hall : ∀ i, i < nb → ∃ f, pageOf fs (at_ + i) = some f) :
    Calls Try.prog 86 #[.slice A n c, .int .u64 at_, .slice Ab nb cb] w fun e w' => ∃ A' c' qs, e = .returned (.slice A' n c') ∧ PgsAt w'.heap.size w' A' qs ∧ qs.length = n ∧ qs.map PgIn.pg = (wrF fs at_ bs nb).map Fr.pg ∧ Below w.heap.size w w' := by
  have hb0 : ∀ s ∈ ps, Bs w.heap.size w s.A s.data ∨ OwnB w w.heap.size (.slice s.A s.data.length s.cap) s.data := fun s hs => .inl (hP.bytes s hs)
  have hap : ∀ i j (hi : i < ps.length) (hj : j < ps.length), i ≠ j → ∀ a b : Addr, ps[i].A = some a → ps[j].A = some b → w.heap.size ≤ a.block → a.block ≠ b.block := fun i j hi hj _ a b ha _ hge => by
    have h1 := (hok.ok ps[i].pg (List.mem_map.2 ⟨ps[i], List.getElem_mem hi, rfl⟩)).len
    have h1 : ps[i].data.length = 4096 := h1
    obtain ⟨b2, o2, e, hlt, _⟩ := (hP.bytes ps[i] (List.getElem_mem hi)).at_ 0 (by omega)
    rw [ha] at e
    cases e
    exact absurd hlt (Nat.not_lt_of_le hge)
  have hokF : PsOK (fs.map Fr.pg) := by rw [hfs]; exact hok
  have HN := Lib.hid (And.intro hn (And.intro hfs (And.intro hokF (And.intro hnb hall))))
  have hcs := hP.cs
  have hn0 : ps.length = n := hn
  have hsm := hP.small
  clear hn hfs hok hnb hall hokF
  go_enter Try.func86, Try.ntmps86
  go_wp2_with (at_builtin; refine wpList_copyQ _ w rfl (.tmp 12) (.tmp 13) rfl rfl rfl w.heap.size (Nat.le_refl _) A n c ps rfl hn0 hcs hb0 hsm (by omega) ?h1)
  case h1 =>
    intro v1 w1 hR1 hB1
    obtain ⟨A1, c1, rfl, -⟩ := hR1.row.form
    rw [HN.out.1] at hR1 ⊢
    have hW1 : WrPs w1 w.heap.size w.heap.size (.slice A1 n c1) ps := ⟨hR1, hap⟩
    clear hcs hb0 hsm hR1 hap hP hn0
    go_wp2_with fail
    go_loopw [8, 9] (fun last i wr => ∃ (j : Nat) (qs : List PgIn) (li : Int), j ≤ nb ∧ i = .int .i64 j ∧ last = .int .i64 li ∧ WrPs wr w.heap.size w.heap.size (.slice A1 n c1) qs ∧ qs.length = n ∧ qs.map PgIn.pg = (wrF fs at_ bs j).map Fr.pg ∧
      (∀ kk (h : kk < qs.length), li = (kk : Int) → OwnB wr w.heap.size (.slice qs[kk].A qs[kk].data.length qs[kk].cap) qs[kk].data) ∧ Below w.heap.size w wr) (fun _ i _ => nb - (intOf i).toNat)
    case atStart => exact ⟨0, ps, -1, by omega, rfl, rfl, hW1, HN.out.1, HN.out.2.1.symm, fun kk _ e => by omega, hB1⟩
    case round =>
      clear hW1 hB1
      obtain ⟨j, qs, li, hj, rfl, rfl, hW, hql, hqs, hli, hB⟩ := hrel
      have HQ := Lib.hid (And.intro hql (And.intro hqs hli))
      by_cases hlt : j < nb
      · have hd : decide ((j : Int) < (nb : Int)) = true := decide_eq_true (by omega)
        have hji : (j : Int) < (nb : Int) := by omega
        obtain ⟨k, hk, hfk, hle, hsub, hdl, htop, hset⟩ := wr_page hqs (ok_wrF HN.out.2.2.1 at_ bs j) (page_wrF (HN.out.2.2.2.2 j hlt) at_ bs j)
        obtain ⟨g, e, hgb, hgl, q0, q1, q2, qf0, qf1, qf2⟩ := row_cells hW hk
        cases e
        obtain ⟨bb, bo, rfl, hbb, hbc⟩ := hBs.at_ j (by rw [HN.out.2.2.2.1]; exact hlt)
        have hbw := (hB.cell (p := ⟨bb, bo + j, none⟩) hbb).trans hbc
        obtain ⟨x, hx⟩ : ∃ x, x = qs[k] := ⟨_, rfl⟩
        rw [← hx] at hle hsub hdl htop q0 q1 q2
        obtain ⟨off, hoff⟩ : ∃ off, off = (at_ + j) % 4096 := ⟨_, rfl⟩
        have hs2 : (at_ : Int) + (j : Int) - (x.base : Int) = (off : Int) := by omega
        have hol : off < 4096 := by rw [hoff]; exact Nat.mod_lt _ (by decide)
        have hoi : (off : Int) < 4096 := by omega
        have hBn := hB.size
        have hPq := (hW.ref.pgs hBn (by omega))
        obtain ⟨A2, c2, e2, hPq⟩ := hPq
        simp only [Value.slice.injEq] at e2
        obtain ⟨rfl, -, rfl⟩ := e2
        rw [hdl] at q2
        have hkn : (k : Int) < (n : Int) := by rw [← hql]; omega
        obtain ⟨c8, hc8⟩ : ∃ c8, c8 = bs[j]'(by rw [HN.out.2.2.2.1]; exact hlt) := ⟨_, rfl⟩
        rw [← hc8] at hbc hbw
        have HC := Lib.hid hc8
        have HX := Lib.hid (And.intro hx (And.intro hoff (And.intro hset (And.intro hdl (And.intro hfk (And.intro hW hbc))))))
        have haj : at_ + j < 18446744073709551616 := by omega
        by_cases hkl : li = (k : Int)
        · have ht : ((k : Int) != (k : Int)) = false := by simp
          have hown := hli k hk hkl
          rw [← hx, hdl] at hown
          obtain ⟨gk, hA, hgk, hgkl, hg8, hgf⟩ := own_page hown
          rw [hA] at q2 hown
          obtain ⟨u8, hu8⟩ := hg8 off hol
          have hf8 := hgf off
          have hne1 : gk ≠ g := own_ne hW hown rfl
          have hAq : qs[k].A = some ⟨gk, 0, none⟩ := by rw [← hx]; exact hA
          have hset2 : ∀ c, (setB (wrF fs at_ bs j) (at_ + j) c).map Fr.pg = _ := hset
          have HY := Lib.hid (wr_byte (c := 0) (c8 := c8) hW hk hAq (hli k hk hkl) hoff hset2 hql hB rfl)
          have ew1 : IntKind.u64.wrap (j : Int) = (j : Int) := by rw [IntKind.wrap_u64]; omega
          have ew2 : IntKind.u64.wrap ((at_ : Int) + (j : Int)) = (at_ : Int) + (j : Int) := by rw [IntKind.wrap_u64]; omega
          have ew3 : IntKind.u64.wrap ((at_ : Int) + (j : Int) - (x.base : Int)) = (off : Int) := by rw [IntKind.wrap_u64]; omega
          have hne2 : gk ≠ bb := by omega
          subst hkl
          clear hqs hli hql hx hoff hset hfk hsub hdl hW hown hg8 hgf hbc hc8 hle htop hA hAq hset2 q1 qf0 qf1 qf2
          go_wp2_with (go_at_call 93; refine (rfind2_any wr _ c1 n (at_ + j) wr.heap.size qs hPq HQ.out.1 haj).mono ?_; rw [HX.out.2.2.2.2.1]; rintro e w' ⟨rfl, rfl⟩)
          go_region
          obtain ⟨qs2, y1, y2, y3, y4, y5⟩ := HY.out
          have HS := Lib.hid (show qs2.map PgIn.pg = (wrF fs at_ bs (j + 1)).map Fr.pg by
            rw [y3, wrF, HC.out, List.getD_eq_getElem?_getD, List.getElem?_eq_getElem (by rw [HN.out.2.2.2.1]; exact hlt)]; rfl)
          clear y3
          go_wp2
          go_roundw
          case rel => exact ⟨j + 1, qs2, (k : Int), by omega, by go_num, rfl, drewP y2, y1, HS.out, y4, y5.drew⟩
          case measure => simp [intOf]; omega
        · have ht : ((k : Int) != li) = true := by simp; exact fun e => hkl e.symm
          have hpf := page_wrF (HN.out.2.2.2.2 j hlt) at_ bs j
          have hokj := ok_wrF HN.out.2.2.1 at_ bs j
          have hsrc := hPq.bytes qs[k] (List.getElem_mem hk)
          have hdq : qs[k].data.length = 4096 := by rw [← hx]; exact hdl
          have hcop := fun (w4 : World) (A3 : Option Addr) (c3 : Nat) h4 hown4 => wr_copied (w4 := w4) (A3 := A3) (c3 := c3) hW hk hBn hql hB hdq hqs hokj hpf hfk hoff h4 hown4
          rw [← hx] at hsrc hcop
          have HY := Lib.hid hcop
          have ew1 : IntKind.u64.wrap (j : Int) = (j : Int) := by rw [IntKind.wrap_u64]; omega
          have ew2 : IntKind.u64.wrap ((at_ : Int) + (j : Int)) = (at_ : Int) + (j : Int) := by rw [IntKind.wrap_u64]; omega
          have ew3 : IntKind.u64.wrap ((at_ : Int) + (j : Int) - (x.base : Int)) = (off : Int) := by rw [IntKind.wrap_u64]; omega
          have hl0 : OwnB (wr.alloc (.cells #[] 5)).drew wr.heap.size (.slice (some ⟨wr.heap.size, 0, none⟩) 0 0) [] := World.ownsRow_lit wr #[] 0 (Nat.le_refl _) (by decide) rfl
          have hba : Below wr.heap.size wr (wr.alloc (.cells #[] 5)).drew := ((Below.refl _ wr).alloc (Nat.le_refl _) _).drew
          have hsr2 : Bs wr.heap.size (wr.alloc (.cells #[] 5)).drew x.A x.data := hsrc.below hba
          have q02 : ∀ o, (wr.alloc o).cell? ⟨g, k * 3, none⟩ = some (.int .u64 (x.base : Int)) := fun o => (World.cell?_alloc_lt wr _ ⟨g, k * 3, none⟩ hgl).trans q0
          have q12 : ∀ o, (wr.alloc o).cell? ⟨g, k * 3 + 1, none⟩ = some (.int .i64 x.perm) := fun o => (World.cell?_alloc_lt wr _ ⟨g, k * 3 + 1, none⟩ hgl).trans q1
          have q22 : ∀ o, (wr.alloc o).cell? ⟨g, k * 3 + 2, none⟩ = some (.slice x.A 4096 x.cap) := fun o => (World.cell?_alloc_lt wr _ ⟨g, k * 3 + 2, none⟩ hgl).trans q2
          have HL := Lib.hid (And.intro hl0 (And.intro hsr2 (And.intro hdl hba)))
          have hbase : wr.heap.size ≤ ((wr.alloc (.cells #[] 5)).drew).heap.size := by show _ ≤ (wr.alloc _).heap.size; rw [World.size_alloc]; omega
          clear hqs hli hql hx hoff hset hfk hsub hdl hW hbc hc8 hle htop hcop hsrc hdq hpf hokj hl0 hba hsr2
          go_wp2_with (go_at_call 93; refine (rfind2_any wr _ c1 n (at_ + j) wr.heap.size qs hPq HQ.out.1 haj).mono ?_; rw [HX.out.2.2.2.2.1]; rintro e w' ⟨rfl, rfl⟩)
          go_region_law (first
              | (refine step_appB rfl (.tmp 42) (.tmp 47) rfl wr.heap.size _ [] rfl HL.out.1 wr.heap.size x.A 4096 x.cap x.data rfl HL.out.2.2.1 HL.out.2.1 (by simp) hbase ?_
                 intro v3 w4 hv4 hB4 hk4
                 obtain ⟨A3, c3, rfl, _⟩ := hv4.form
                 rw [List.nil_append] at hv4 ⊢
                 rw [HL.out.2.2.1] at hv4 ⊢
                 have h4 : Below wr.heap.size wr w4 := hB4 wr HL.out.2.2.2
                 obtain ⟨gk, rfl, hgk, hne1, W5, hW5, hB5, l0, l1, l2, ⟨u8, hu8⟩, hf8, hbyte⟩ := HY.out _ _ _ h4 hv4
                 have k0 := (h4.cell (p := ⟨g, k * 3, none⟩) hgl).trans q0
                 have k1 := (h4.cell (p := ⟨g, k * 3 + 1, none⟩) hgl).trans q1
                 have k2 := (h4.cell (p := ⟨g, k * 3 + 2, none⟩) hgl).trans q2
                 have f0 := (h4.frozen (p := ⟨g, k * 3, none⟩) hgl).trans qf0
                 have f1 := (h4.frozen (p := ⟨g, k * 3 + 1, none⟩) hgl).trans qf1
                 have f2 := (h4.frozen (p := ⟨g, k * 3 + 2, none⟩) hgl).trans qf2
                 have m0 := l0
                 rw [hW5] at l0 l1))
          all_goals
            rw [← hW5]
            obtain ⟨qs2, y1, y2, y3, y4, y5⟩ := hbyte c8
            have HS := Lib.hid (show qs2.map PgIn.pg = (wrF fs at_ bs (j + 1)).map Fr.pg by
              rw [y3, wrF, HC.out, List.getD_eq_getElem?_getD, List.getElem?_eq_getElem (by rw [HN.out.2.2.2.1]; exact hlt)]; rfl)
            have HZ := Lib.hid (And.intro y1 (And.intro y2 (And.intro y4 y5)))
            have hb5 := (hB5.cell (p := ⟨bb, bo + j, none⟩) hbb).trans HX.out.2.2.2.2.2.2
            have hne2 : gk ≠ bb := by omega
            clear hbyte y1 y2 y3 y4 y5 hW5 l0 l1 k0 k1 k2 f0 f1 f2 hv4 hB4 hk4 h4 q0 q1 q2 q02 q12 q22 qf0 qf1 qf2 hbw
            go_wp2
            go_region
            go_wp2
            go_roundw
            case rel => exact ⟨j + 1, qs2, (k : Int), by omega, by go_num, rfl, drewP HZ.out.2.1, HZ.out.1, HS.out, HZ.out.2.2.1, HZ.out.2.2.2.drew⟩
            case measure => simp [intOf]; omega
      · have hd : decide ((j : Int) < (nb : Int)) = false := decide_eq_false (by omega)
        obtain ⟨A2, c2, e, hPq⟩ := hW.ref.pgs hB.size (by omega)
        simp only [Value.slice.injEq] at e
        obtain ⟨rfl, _, rfl⟩ := e
        obtain rfl : j = nb := by omega
        have HF := Lib.hid hqs
        clear hqs hli hql
        go_wp2
        go_ret
        exact ⟨_, _, qs, rfl, hPq, HQ.out.1, HF.out, hB⟩
end Go.Proofs
