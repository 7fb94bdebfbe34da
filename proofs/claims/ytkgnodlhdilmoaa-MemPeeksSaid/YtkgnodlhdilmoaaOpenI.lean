/- The arguments opened: segments, bytes with their room. -/
import Derived.Test.YtkgnodlhdilmoaaOpen
import Derived.Test.YtkgnodlhdilmoaaElfChk
namespace Go.Proofs
open Go Go.RowKit Go.Pat Go.Joins Go.ChangeShapes Go.WideShapes Go.Deep
instance : Inhabited Sg := ⟨⟨0, 0, none, 0, [], 0⟩⟩
section
variable {H : Type} {enc : TypeId × Value → H} {w : World} {base : Nat} {spare : Nat → Bool} {held : Bool}
theorem Try_cellsS : Try.prog.cellsOf 73 = 4 := by kernel_rfl
theorem Try_bytesS : Try.prog.bytesOf 73 = 48 := by kernel_rfl

theorem open_bytes_cap {fuel : Nat} {cs : List Value} {x : DataW H × List MemPlace} (h : DataW.trod enc Try.prog w base spare held fuel 35 cs = some x) (hs : ∀ n ∈ x.1.weights Try.prog 35, n ≤ reachBytes) :
    ∃ (A : Option Addr) (cap : Nat) (l : List UInt8), cs = [.slice A l.length cap] ∧ Bs w.heap.size w A l ∧ l.length ≤ 140737488351232 ∧ l.length ≤ cap := by
  obtain ⟨A, cap, l, rfl, hB, hl⟩ := open_bytes h hs
  refine ⟨A, cap, l, rfl, hB, hl, ?_⟩
  rcases open_slice1 Try.underlying35 Try_cells8 h with ⟨e, _⟩ | ⟨a, len, cap', m, n, V, D, Pl, e, hb, hl, hm, hmm, rfl, hx⟩
  · simp only [List.cons.injEq, Value.slice.injEq, and_true] at e
    omega
  · simp only [List.cons.injEq, Value.slice.injEq, and_true] at e
    omega

theorem open_segs {fuel : Nat} {cs : List Value} {x : DataW H × List MemPlace} (h : DataW.trod enc Try.prog w base spare held fuel 36 cs = some x) (hs : ∀ n ∈ x.1.weights Try.prog 36, n ≤ reachBytes) :
    ∃ (A : Option Addr) (cap : Nat) (ss : List Sg), cs = [.slice A ss.length cap] ∧ SgsAt w.heap.size w A ss := by
  rcases open_slice_fields Try.underlying36 Try.underlying73 (by kernel_rfl) Try_cellsS h with ⟨rfl, _⟩ | ⟨a, len, cap, m, D, Pl, rfl, hb, hl, hm, hmm, rfl, hx⟩
  · exact ⟨none, 0, [], rfl, fun i hi => absurd hi (by simp), by simp, by simp, by simp, by simp⟩
  · have hlm : len ≤ m := by rw [hmm]; split <;> omega
    obtain ⟨hw1, hw2⟩ := slice_weights Try.underlying36 hs
    rw [Try_bytesS] at hw1
    simp only [List.length_map, List.length_range, reachBytes] at hw1
    have hV : ∀ i, i < len → ∃ p : Sg, w.cell? (a.add (i * 4)) = some (.int .u64 (p.addr : Int)) ∧ w.cell? (a.add (i * 4 + 1)) = some (.int .i64 p.perm) ∧ w.cell? (a.add (i * 4 + 2)) = some (.slice p.A p.data.length p.cap) ∧
        w.cell? (a.add (i * 4 + 3)) = some (.int .u64 (p.size : Int)) ∧ Bs w.heap.size w p.A p.data ∧ (p.addr < 18446744073709551616 ∧ p.size < 18446744073709551616 ∧ p.data.length ≤ 140737488351232) ∧ p.data.length ≤ p.cap := fun i hi => by
      obtain ⟨ys, n, hD, _, hlen, hf⟩ := hx i (by omega)
      obtain ⟨v0, y0, c0, e0, t0⟩ := hf 0 _ rfl
      obtain ⟨v1, y1, c1, e1, t1⟩ := hf 1 _ rfl
      obtain ⟨v2, y2, c2, e2, t2⟩ := hf 2 _ rfl
      obtain ⟨v3, y3, c3, e3, t3⟩ := hf 3 _ rfl
      obtain ⟨z0, h0, _, k0⟩ := DataW.trod_int Try.underlying23 t0
      obtain ⟨z1, h1, _, k1⟩ := DataW.trod_int Try.underlying3 t1
      obtain ⟨z3, h3, _, k3⟩ := DataW.trod_int Try.underlying23 t3
      have hz : 0 ≤ z0 ∧ z0 ≤ 18446744073709551615 := by have := k0; simp [Lit.wf] at this; exact this
      have hz3 : 0 ≤ z3 ∧ z3 ≤ 18446744073709551615 := by have := k3; simp [Lit.wf] at this; exact this
      have hDi := hw2 (D i) (List.mem_map.2 ⟨i, List.mem_range.2 hi, rfl⟩)
      rw [hD] at hDi
      obtain ⟨A, c, l, h2, hB, hl2, hcp⟩ := open_bytes_cap t2 (agg_weights Try.underlying73 hDi 2 rfl (by simp [e2]))
      simp only [List.cons.injEq, and_true] at h0 h1 h2 h3
      subst h0 h1 h2 h3
      exact ⟨⟨z0.toNat, z1, A, c, l, z3.toNat⟩, by rw [show ((z0.toNat : Nat) : Int) = z0 by omega]; exact c0, c1, c2, by rw [show ((z3.toNat : Nat) : Int) = z3 by omega]; exact c3, hB, ⟨by show z0.toNat < _; omega, by show z3.toNat < _; omega, hl2⟩, hcp⟩
    obtain ⟨p, hp⟩ := choose_lt hV
    refine ⟨some a, cap, (List.range len).map p, by simp, fun i hi => ?_, ?_, ?_, ?_, ?_⟩
    · have hi' : i < len := by simpa using hi
      obtain ⟨q0, q1, q2, q3, _⟩ := hp i hi'
      obtain ⟨r0, _, _, _⟩ := hp 0 (by omega)
      rw [Nat.zero_mul] at r0
      obtain ⟨h1, h2⟩ := addr_of_cell q0 r0
      refine ⟨a.block, a.off, by rw [← h1], block_of_cell (a := ⟨a.block, a.off + i * 4, none⟩) h2, ?_, ?_, ?_, ?_⟩
      · rw [h2]; simp
      · rw [Nat.add_assoc, (addr_of_cell q1 r0).2]; simp
      · rw [Nat.add_assoc, (addr_of_cell q2 r0).2]; simp
      · rw [Nat.add_assoc, (addr_of_cell q3 r0).2]; simp
    · intro q hq
      obtain ⟨i, hi, rfl⟩ := List.mem_map.1 hq
      exact (hp i (List.mem_range.1 hi)).2.2.2.2.1
    · intro q hq
      obtain ⟨i, hi, rfl⟩ := List.mem_map.1 hq
      exact (hp i (List.mem_range.1 hi)).2.2.2.2.2.1
    · simp only [List.length_map, List.length_range]; omega
    · intro q hq
      obtain ⟨i, hi, rfl⟩ := List.mem_map.1 hq
      exact (hp i (List.mem_range.1 hi)).2.2.2.2.2.2
end
end Go.Proofs
