/- patinaplain.Bytes tells whether bytes are equal. -/
import Derived.Test.YtemngapfnkokiaaDoorBuf2
import Derived.Laws.IdiomStrings
import Derived.Lib.BufferRead
namespace Go.Proofs
open Go Go.RowKit Go.Pat

theorem run_str (w : World) (A : Option Addr) (n cap B : Nat) (l : List UInt8) (hr : Bs B w A l) (hn : l.length = n) :
    (convert 42 9 (.slice A n cap)).run Tryd.prog w = .ok (.string ⟨l.toArray⟩) w := by
  subst hn
  cases A with
  | none =>
    have h0 : l = [] := by
      cases l with
      | nil => rfl
      | cons x r => obtain ⟨_, _, e, _⟩ := hr 0 (by simp [bcells]); cases e
    subst h0
    exact Lib.run_convert_nil_bytes w _ _ 5 cap Tryd.underlying42 Tryd.underlying5 Tryd.underlying9
  | some a =>
    refine run_convert_bytes_back w _ _ 5 a cap l Tryd.underlying42 Tryd.underlying5 Tryd.underlying9 ?_
    intro j hj
    exact hr.news rfl j _ (by simp [bcells, hj, bval])
theorem str_eq (l m : List UInt8) : ((⟨l.toArray⟩ : ByteArray) = ⟨m.toArray⟩) ↔ l = m := by
  constructor
  · intro h; have := congrArg ByteArray.data h; simpa using this
  · rintro rfl; rfl
set_option maxHeartbeats 1000000 in
theorem pBytes_any (w : World) (A1 A2 : Option Addr) (n1 n2 c1 c2 B1 B2 : Nat) (l m : List UInt8) (h1 : Bs B1 w A1 l) (h2 : Bs B2 w A2 m) (e1 : l.length = n1) (e2 : m.length = n2) :
    Calls Tryd.prog 18 #[.slice A1 n1 c1, .slice A2 n2 c2] w fun e w' => e = .returned (.bool (l == m)) ∧ w = w' := by
  have r1 := run_str w A1 n1 c1 B1 l h1 e1
  have r2 := run_str w A2 n2 c2 B2 m h2 e2
  go_enter Tryd.func18, Tryd.ntmps18
  go_wp2
  go_ret
  exact ⟨rfl, rfl⟩
end Go.Proofs
