/- patinalaw10.kept and RtRoom: the walks. -/
import Derived.Test.YtlhenglopnipaaaGreatDoorRtRm
import Derived.Test.YtlhenglopnipaaaGreatDoorRtRS
namespace Go.Pat
open Go Go.RowKit Go.Proofs
end Go.Pat
namespace Go.Proofs
open Go Go.RowKit Go.Pat
def KeptTo (l : List It) (w : World) (e : Ending) (w' : World) : Prop := ∃ A c, e = .returned (.slice A (keptL l).length c) ∧ OwnT w' w.heap.size (.slice A (keptL l).length c) (keptL l) ∧ Below w.heap.size w w'
theorem tcells_kh : (tcells keptHead).toArray = #[.int .i64 2, .string no, .int .i64 22, .int .i64 2, .int .i64 2, .int .i64 0, .int .i64 (-16), .int .i64 2, .string no, .int .i64 21, .int .i64 0, .int .i64 2, .int .i64 9, .int .i64 0, .int .i64 2, .string no, .int .i64 21, .int .i64 0, .int .i64 2, .int .i64 18, .int .i64 8, .int .i64 3, .string no, .int .i64 0, .int .i64 9, .int .i64 0, .int .i64 0, .int .i64 0, .int .i64 3, .string no, .int .i64 0, .int .i64 18, .int .i64 0, .int .i64 0, .int .i64 0] := rfl
theorem tcells_kt : (tcells keptTail).toArray = #[.int .i64 2, .string no, .int .i64 14, .int .i64 9, .int .i64 2, .int .i64 0, .int .i64 0, .int .i64 2, .string no, .int .i64 14, .int .i64 18, .int .i64 2, .int .i64 0, .int .i64 8, .int .i64 2, .string no, .int .i64 22, .int .i64 2, .int .i64 2, .int .i64 0, .int .i64 16] := rfl
set_option maxRecDepth 20000 in
set_option maxHeartbeats 16000000 in
theorem l10kept_any (w : World) (A : Option Addr) (c : Nat) (l : List It) (hl : Cs w.heap.size w A (tcells l)) (hlen : l.length ≤ 1000000) :
    Calls Tryz.prog 15 #[.slice A l.length c] w (KeptTo l w) := by
  go_enter Tryz.func15, Tryz.ntmps15
  go_wp2_with fail
  refine Calls.mono (l10ins_e 22 2 2 0 (-16) _) ?_
  rintro e w1 ⟨rfl, hB1⟩
  go_wp2_with fail
  refine Calls.mono (l10ins_e 21 0 2 9 0 _) ?_
  rintro e w2a ⟨rfl, hB2a⟩
  go_wp2_with fail
  refine Calls.mono (l10ins_e 21 0 2 18 8 _) ?_
  rintro e w2b ⟨rfl, hB2b⟩
  go_wp2_with fail
  refine Calls.mono (l10li_e 9 0 _) ?_
  rintro e w2c ⟨rfl, hB2c⟩
  go_wp2_with fail
  refine Calls.mono (l10li_e 18 0 _) ?_
  rintro e w2 ⟨rfl, hB2⟩
  have hBa : Below w.heap.size w w2a := hB1.trans (hB2a.mono hB1.size)
  have hBb : Below w.heap.size w w2b := hBa.trans (hB2b.mono hBa.size)
  have hBc : Below w.heap.size w w2c := hBb.trans (hB2c.mono hBb.size)
  have hB02 : Below w.heap.size w w2 := hBc.trans (hB2.mono hBc.size)
  have hr3 : Cs w.heap.size (w2.alloc (.cells (tcells keptHead).toArray 28)) A (tcells l) := hl.below (hB02.alloc hB02.size _)
  have ho3 : OwnT (w2.alloc (.cells (tcells keptHead).toArray 28)) w.heap.size (.slice (some ⟨w2.heap.size, 0, none⟩) 5 5) keptHead := World.ownsRow_lit w2 (tcells keptHead).toArray 5 hB02.size (by decide) rfl
  rw [tcells_kh] at hr3 ho3
  have hs3 : w.heap.size ≤ w2.heap.size + 1 := by have := hB02.size; omega
  clear hB1 hB2a hB2b hB2c hB2 hBa hBb hBc
  go_wp2_with (at_builtin; refine wpList_app _ rfl _ _ 24 rfl Tryz_elTs w.heap.size _ 5 (tcells keptHead) (by exact rfl) ho3 w.heap.size A l.length c (tcells l) (by exact rfl) (tcells_length l) hr3 (tcells_one l) (by simp only [maxLen]; omega) (by omega) (by rw [World.size_alloc]; omega) ?_)
  intro v4 w4 h4 hg4 hnil hat
  have hB04 : Below w.heap.size w w4 := (hB02.alloc hB02.size _).grown hg4 (by rw [World.size_alloc]; omega) (fun k hk => (ho3.lt k hk).1)
  have ho4 : OwnT w4 w.heap.size v4 (keptHead ++ l) := by
    unfold OwnT
    rw [tcells_append, List.length_append]
    exact h4
  obtain ⟨A4, c4, hv4, -⟩ := ho4.form
  rw [show (keptHead ++ l).length = l.length + 5 by rw [List.length_append]; simp only [keptHead, List.length_cons, List.length_nil]; omega] at hv4
  subst hv4
  clear h4 hg4 hnil hat ho3 hr3
  have HO := Lib.hid ho4
  clear ho4
  go_wp2_with fail
  refine Calls.mono (l10ins_e 14 9 2 0 0 _) ?_
  rintro e w5 ⟨rfl, hB5⟩
  go_wp2_with fail
  refine Calls.mono (l10ins_e 14 18 2 0 8 _) ?_
  rintro e w6 ⟨rfl, hB6⟩
  go_wp2_with fail
  refine Calls.mono (l10ins_e 22 2 2 0 16 _) ?_
  rintro e w7 ⟨rfl, hB7⟩
  have hB47 : Below w4.heap.size w4 w7 := (hB5.trans (hB6.mono hB5.size)).trans (hB7.mono (Nat.le_trans hB5.size hB6.size))
  have hB07 : Below w.heap.size w w7 := hB04.trans (hB47.mono hB04.size)
  have ho8 : w7.alloc (.cells (tcells keptTail).toArray 28) |>.ownsRow w.heap.size 28 7 (.slice A4 (l.length + 5) c4) (l.length + 5) (tcells (keptHead ++ l)) := by
    have h1 : OwnT w4 w.heap.size (.slice A4 (l.length + 5) c4) (keptHead ++ l) := HO.out
    have h2 := h1.below (hB47.alloc hB47.size (.cells (tcells keptTail).toArray 28))
    unfold OwnT at h2
    rw [show (keptHead ++ l).length = l.length + 5 by rw [List.length_append]; simp only [keptHead, List.length_cons, List.length_nil]; omega] at h2
    exact h2
  have hr8 := it_lit keptTail w7 28
  rw [tcells_kt] at ho8 hr8
  have hs7 := hB07.size
  clear hB5 hB6 hB7
  go_wp2_with (at_builtin; refine wpList_app _ rfl _ _ 24 rfl Tryz_elTs w.heap.size (.slice A4 (l.length + 5) c4) (l.length + 5) (tcells (keptHead ++ l)) (by exact rfl) ho8 _ (some ⟨w7.heap.size, 0, none⟩) 3 3 (tcells keptTail) (by exact rfl) (by exact rfl) hr8 (tcells_one keptTail) (by simp only [maxLen]; omega) (by omega) (by rw [World.size_alloc]; omega) ?_)
  intro v9 w9 h9 hg9 hnil hat
  have hB09 : Below w.heap.size w w9 := (hB07.alloc hB07.size _).grown hg9 (by rw [World.size_alloc]; omega) (fun k hk => (ho8.lt k hk).1)
  have ho9 : OwnT w9 w.heap.size v9 (keptL l) := by
    unfold OwnT keptL
    rw [tcells_append, show (keptHead ++ l ++ keptTail).length = l.length + 5 + 3 by simp [keptHead, keptTail]]
    exact h9
  obtain ⟨A9, c9, hv9, -⟩ := ho9.form
  have HL := Lib.hid (show (keptL l).length = l.length + 8 by simp [keptL, keptHead, keptTail])
  rw [HL.out] at hv9
  subst hv9
  have HE := Lib.hid (And.intro ho9 hB09)
  clear ho9 hB09 h9 hg9 hnil hat
  go_wp2_with fail
  go_ret
  refine ⟨A9, c9, ?_, ?_, HE.out.2⟩
  · rw [HL.out]; rfl
  · rw [HL.out]; exact HE.out.1
end Go.Proofs
