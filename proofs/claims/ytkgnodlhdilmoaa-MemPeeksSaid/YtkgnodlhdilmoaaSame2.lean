/- patinalaw02.same: has a memory just some pages? -/
import Derived.Test.YtkgnodlhdilmoaaPages
import Derived.Test.YtkgnodlhdilmoaaCpu
import Derived.Test.YtkgnodlhdilmoaaFetchs
namespace Go.Pat
open Go Go.RowKit Go.Proofs

theorem sortF_of {fs : List Fr} (h : fs.Pairwise (fun a b => a.base ≤ b.base)) : sortF fs = fs := by
  unfold sortF
  refine List.mergeSort_of_pairwise ?_
  exact h.imp (fun hab => by simpa using hab)
theorem fs_rises {fs : List Fr} {l : List Pgd} (hfs : fs.map Fr.pg = l) (hok : PsOK l) : fs.Pairwise (fun a b => a.base < b.base) := by
  have h := hok.rises
  rw [← hfs, List.pairwise_map] at h
  exact h
theorem sortF_ok {fs : List Fr} {l : List Pgd} (hfs : fs.map Fr.pg = l) (hok : PsOK l) : (sortF fs).map Fr.pg = l := by
  rw [sortF_of ((fs_rises hfs hok).imp (fun h => Nat.le_of_lt h)), hfs]

theorem MemN.mono {B B' : Nat} {w : World} {q : Option Addr} {fs : List Fr} (h : MemN B w q fs) (hB : B ≤ B') : MemN B' w q fs := by
  rcases h with h | ⟨p, mb, e, hM, h1, h2, h3⟩
  · exact .inl h
  · exact .inr ⟨p, mb, e, hM, by omega, by omega, fun f hf => by have := h3 f hf; omega⟩

theorem same2_any (w : World) (q : Option Addr) (fs : List Fr) (A : Option Addr) (n c : Nat) (ps : List PgIn) (hM : MemN w.heap.size w q fs) (hP : PgsAt w.heap.size w A ps) (hn : ps.length = n) (hlen : fs.length ≤ 90000)
    (heq : (sortF fs).map Fr.pg = ps.map PgIn.pg) :
    Calls Go.Proofs.Try.prog 41 #[.pointer q, .slice A n c] w fun e w' => e = .returned (.bool true) ∧ Below w.heap.size w w' := by
  have HN := Lib.hid (And.intro hn heq)
  clear hn heq
  go_enter Go.Proofs.Try.func41, Go.Proofs.Try.ntmps41
  go_wp2_with (go_at_call 46; refine (Pages_any q fs hlen w hM).mono ?_; rintro e w1 ⟨v, ss, rfl, ho, he, hB⟩; obtain ⟨A2, c2, rfl, hP2⟩ := ho.pgs (by have := congrArg List.length he; simp [sortF_length] at this; omega); have hl2 : ss.length = n := (by have := congrArg List.length (he.trans HN.out.2); simpa [HN.out.1] using this); rw [hl2])
  have hP1 := (hP.below hB).mono hB.size
  refine Calls.mono (pPages_same w1 A2 A n c2 c ss ps hP2 hP1 hl2 HN.out.1 (he.trans HN.out.2)) ?_
  rintro e w2 ⟨rfl, hB2⟩
  go_wp2
  go_ret
  exact ⟨rfl, hB.trans (hB2.mono hB.size)⟩
end Go.Pat
