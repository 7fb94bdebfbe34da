/- A map from names to addresses, of the call's own. -/
import Derived.Test.YtemngapfnkokiaaDoorItem
import Derived.Maps.Own
import Derived.Maps.OwnOps
import Derived.Maps.OwnSet
import Derived.Maps.Views
namespace Go.Proofs
open Go Go.RowKit Go.Pat Go.Maps Go.WideShapes
theorem Tryd_law_s : Keyed Tryd.prog 9 := string_keyed Tryd.underlying9
theorem Tryd_und_smap : Tryd.prog.underlying 108 = some (.map 9 30) := by kernel_rfl
theorem Tryd_zero_u64 (w : World) : (zeroValue 30).run Tryd.prog w = .ok (.int .u64 0) w := by kernel_rfl
/-- a block is a map of at most n names: F tells each name's address. -/
def SMap (w : World) (b n : Nat) (F : List UInt8 → Option Nat) : Prop :=
  ∃ D : DataW Unit, w.ownsMap Tryd.prog 9 (plainElem Tryd.prog 30) b n D ∧ IsMap D ∧ ∀ l, has D (.string l) = (F l).isSome ∧ D.atKey (.string l) (.lit (.int .u64 0)) = .lit (.int .u64 (((F l).getD 0 : Nat) : Int))
theorem SMap.made (w : World) : SMap (w.alloc (.map #[] 0)) w.heap.size 0 (fun _ => none) :=
  ⟨.map [], World.ownsMap_made _ _ _ _, isMap_empty, fun _ => ⟨rfl, rfl⟩⟩
theorem SMap.lt {w : World} {b n : Nat} {F : List UInt8 → Option Nat} (h : SMap w b n F) : b < w.heap.size := by
  obtain ⟨D, hD, _⟩ := h
  exact hD.lt
theorem SMap.keep {w w' : World} {b n : Nat} {F : List UInt8 → Option Nat} (h : SMap w b n F) (hk : w'.heap[b]? = w.heap[b]?) : SMap w' b n F := by
  obtain ⟨D, ⟨es, clock, hb, r⟩, h2⟩ := h
  exact ⟨D, ⟨es, clock, hk.trans hb, r⟩, h2⟩
theorem SMap.below {w w' : World} {b n : Nat} {F : List UInt8 → Option Nat} (h : SMap w b n F) (hb : Below w.heap.size w w') : SMap w' b n F := h.keep (hb.block _ h.lt)
theorem SMap.look {w : World} {b n : Nat} {F : List UInt8 → Option Nat} (h : SMap w b n F) (s : ByteArray) (hs : s.size ≤ maxLen) :
    (Instr.lookup 108 (.map (some b)) (.string s) false).run Tryd.prog w = .ok (.int .u64 (((F s.data.toList).getD 0 : Nat) : Int)) w := by
  obtain ⟨D, hD, _, hF⟩ := h
  obtain ⟨c, hrun, hat, _⟩ := hD.lookup_int Tryd_law_s Tryd_und_smap Tryd.underlying30 (Tryd_zero_u64 w) (Go.WideMaps.keyOf_string_mk Tryd.underlying9 hs)
  rw [(hF s.data.toList).2] at hat
  simp only [DataW.lit.injEq, Lit.int.injEq, true_and] at hat
  rw [hrun, ← hat]
theorem SMap.lookOk {w : World} {b n : Nat} {F : List UInt8 → Option Nat} (h : SMap w b n F) (s : ByteArray) (hs : s.size ≤ maxLen) :
    (Instr.lookup 108 (.map (some b)) (.string s) true).run Tryd.prog w = .ok (.tuple #[.int .u64 (((F s.data.toList).getD 0 : Nat) : Int), .bool (F s.data.toList).isSome]) w := by
  obtain ⟨D, hD, _, hF⟩ := h
  obtain ⟨v, ps, hrun, hv⟩ := hD.look_ok Tryd_law_s Tryd_und_smap (Tryd_zero_u64 w) (plainElem_int Tryd.underlying30 (by decide)) (Go.WideMaps.keyOf_string_mk Tryd.underlying9 hs)
  obtain ⟨c, rfl, hc, hwc⟩ := plainElem_int_inv Tryd.underlying30 hv
  have hat := congrArg Prod.fst hc
  simp only at hat
  rw [(hF s.data.toList).2] at hat
  simp only [DataW.lit.injEq, Lit.int.injEq, true_and] at hat
  rw [hrun, ← hat, (hF s.data.toList).1]
theorem SMap.put {w : World} {b n : Nat} {F : List UInt8 → Option Nat} (h : SMap w b n F) (hn : n < maxLen) (s : ByteArray) (hs : s.size ≤ maxLen) (v : Nat) (hv : v < 18446744073709551616) :
    ∃ w', (Instr.mapUpdate 108 (.map (some b)) (.string s) (.int .u64 (v : Int))).run Tryd.prog w = .ok () w' ∧ SMap w' b (n + 1) (fun l => if l = s.data.toList then some v else F l) ∧ w.grownBy w' (some b) := by
  obtain ⟨D, hD, hM, hF⟩ := h
  have hwf : (Lit.int .u64 (v : Int)).wf = true := WalkArith.wf_u64 ⟨by omega, by omega⟩
  obtain ⟨w', hrun, hown, hg⟩ := hD.update Tryd_law_s Tryd_und_smap hn (Go.WideMaps.keyOf_string_mk Tryd.underlying9 hs) (plainElem_int Tryd.underlying30 hwf)
  refine ⟨w', hrun, ⟨_, hown, hM.put _ _, fun l => ?_⟩, hg⟩
  by_cases hl : l = s.data.toList
  · subst hl
    simp only [if_true]
    exact ⟨has_put_same hM (by simp [WideAt.IsKeyLit]) _, atKey_put_same hM (by simp [WideAt.IsKeyLit]) _ _⟩
  · have hne : (Lit.string l) ≠ Lit.string s.data.toList := fun e => hl (Lit.string.inj e)
    simp only [if_neg hl]
    rw [has_put_other hne, atKey_put_other hne]
    exact hF l
end Go.Proofs
