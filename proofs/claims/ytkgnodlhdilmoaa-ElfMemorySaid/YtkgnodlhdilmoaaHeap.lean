/- Plain facts about the model's memory, for any program: looking up and writing maps, and blocks. -/
import Derived.WalkKit
import Derived.MapKept
import Derived.WideMake
namespace Go.Pat
open Go Go.RowKit
open Go.MapKept (IsKey run_checkKey run_findKey run_setObj_map run_keyThatStays)

section
variable {P : Program} {w : World} {xT kT eT mb clock i : Nat} {es : Array MapEntry} {d : TypeDesc} {k v : Value}

theorem run_lookup_hit (hx : P.underlying xT = some (.map kT eT)) (hk : P.underlying kT = some d) (hkey : IsKey d k)
    (h : w.heap[mb]? = some (.map es clock)) (hf : Instr.findNow d k es.toList 0 = some (some (i, v))) (ok : Bool) :
    (Instr.lookup xT (.map (some mb)) k ok).run P w = .ok (if ok then .tuple #[v, .bool true] else v) w := by
  unfold Instr.lookup
  simp only [Sem.run_bind, run_underlying hx, Result.andThen_ok, Go.MapKept.run_getObj_map h, run_checkKey hk hkey, run_findKey hk hf, Sem.run_pure]

theorem run_lookup_miss (hx : P.underlying xT = some (.map kT eT)) (hk : P.underlying kT = some d) (hkey : IsKey d k)
    (h : w.heap[mb]? = some (.map es clock)) (hf : Instr.findNow d k es.toList 0 = some none)
    (hz : (zeroValue eT).run P w = .ok v w) (ok : Bool) :
    (Instr.lookup xT (.map (some mb)) k ok).run P w = .ok (if ok then .tuple #[v, .bool false] else v) w := by
  unfold Instr.lookup
  simp only [Sem.run_bind, run_underlying hx, Result.andThen_ok, Go.MapKept.run_getObj_map h, run_checkKey hk hkey, run_findKey hk hf, hz, Sem.run_pure]

theorem run_lookup_nil (hx : P.underlying xT = some (.map kT eT)) (hk : P.underlying kT = some d) (hkey : IsKey d k)
    (hz : (zeroValue eT).run P w = .ok v w) (ok : Bool) :
    (Instr.lookup xT (.map none) k ok).run P w = .ok (if ok then .tuple #[v, .bool false] else v) w := by
  unfold Instr.lookup
  have hf : Instr.findNow d k (#[] : Array MapEntry).toList 0 = some none := rfl
  simp only [Sem.run_bind, run_underlying hx, Result.andThen_ok, run_checkKey hk hkey, run_findKey hk hf, hz, Sem.run_pure]

/-- The world in which block r is another object. -/
def setObjW (w : World) (r : Nat) (o : Obj) : World := { w with heap := w.heap.setIfInBounds r o }

theorem run_mapUpdate_new (hx : P.underlying xT = some (.map kT eT)) (hk : P.underlying kT = some d) (hkey : IsKey d k)
    (h : w.heap[mb]? = some (.map es clock)) (hf : Instr.findNow d k es.toList 0 = some none) :
    (Instr.mapUpdate xT (.map (some mb)) k v).run P w = .ok () (setObjW w mb (.map (es.push { key := k, val := v, born := clock }) (clock + 1))) := by
  unfold Instr.mapUpdate
  simp only [Sem.run_bind, run_underlying hx, Result.andThen_ok, Go.MapKept.run_getObj_map h, run_checkKey hk hkey, run_findKey hk hf, run_setObj_map _ h, setObjW]

theorem run_mapUpdate_old {v0 : Value} {e : MapEntry} (hx : P.underlying xT = some (.map kT eT)) (hk : P.underlying kT = some d) (hkey : IsKey d k)
    (h : w.heap[mb]? = some (.map es clock)) (hf : Instr.findNow d k es.toList 0 = some (some (i, v0))) (he : es[i]? = some e) (hek : e.key = k) :
    (Instr.mapUpdate xT (.map (some mb)) k v).run P w = .ok () (setObjW w mb (.map (es.modify i fun e => { e with key := k, val := v }) clock)) := by
  unfold Instr.mapUpdate
  simp only [Sem.run_bind, run_underlying hx, Result.andThen_ok, Go.MapKept.run_getObj_map h, run_checkKey hk hkey, run_findKey hk hf, he, Option.map_some, Option.getD_some, hek, run_keyThatStays hkey, run_setObj_map _ h, setObjW]
end
end Go.Pat
