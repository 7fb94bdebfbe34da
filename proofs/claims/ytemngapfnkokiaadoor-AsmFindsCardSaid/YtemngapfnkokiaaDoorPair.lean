/- patina/asm.pair behind the closures of (*program).code. -/
import Derived.Test.YtemngapfnkokiaaDoorFindL
import Derived.Test.YtemngapfnkokiaaDoorLi
namespace Go.Proofs
open Go Go.RowKit Go.Pat
/-- what is behind the high part of a distance. -/
def restI (d : Int) : Int := wrap64 (d - wrap64 (farH d * 4096))
def PairTo (rd : Int) (snd : In) (d : Int) (w : World) (e : Ending) (w' : World) : Prop :=
  ∃ v, e = .returned (.tuple #[v, .bool (farB d)]) ∧ OwnI w' w.heap.size v [⟨2, rd, 0, 0, farH d⟩, snd] ∧ Below w.heap.size w w'
theorem below4 (w : World) (a b c d : Obj) : Below w.heap.size w ((((w.alloc a).alloc b).alloc c).alloc d) := by
  have h := (form2 w a b)
  have h3 := h.alloc h.size c
  exact h3.alloc h3.size d
theorem own_lit2 (w : World) (a b c : Obj) (i j : In) : OwnI ((((w.alloc a).alloc b).alloc c).alloc (.cells #[.int .i64 i.op, .int .i64 i.rd, .int .i64 i.a, .int .i64 i.b, .int .i64 i.n, .int .i64 j.op, .int .i64 j.rd, .int .i64 j.a, .int .i64 j.b, .int .i64 j.n] 32)) w.heap.size (.slice (some ⟨w.heap.size + 1 + 1 + 1, 0, none⟩) 2 2) [i, j] := by
  have h := World.ownsRow_lit (base := w.heap.size) (e := 32) (size := 5) (((w.alloc a).alloc b).alloc c) #[.int .i64 i.op, .int .i64 i.rd, .int .i64 i.a, .int .i64 i.b, .int .i64 i.n, .int .i64 j.op, .int .i64 j.rd, .int .i64 j.a, .int .i64 j.b, .int .i64 j.n] 2 (by rw [World.size_alloc, World.size_alloc, World.size_alloc]; omega) (by decide) rfl
  rw [World.size_alloc, World.size_alloc, World.size_alloc] at h
  exact h
set_option maxRecDepth 20000 in
theorem acode11_any (d rd link : Int) (b1 b2 : Nat) (w : World) (h1 : w.cell? ⟨b1, 0, none⟩ = some (.int .i64 rd)) (h2 : w.cell? ⟨b2, 0, none⟩ = some (.int .i64 link)) (l1 : b1 < w.heap.size) (l2 : b2 < w.heap.size) :
    Calls Tryd.prog 110 #[.int .i64 d, .pointer (some ⟨b1, 0, none⟩), .pointer (some ⟨b2, 0, none⟩)] w fun e w' => e = .returned (.agg #[.int .i64 4, .int .i64 rd, .int .i64 link, .int .i64 0, .int .i64 d]) ∧ w' = w.alloc (.cells #[.int .i64 4, .int .i64 rd, .int .i64 link, .int .i64 0, .int .i64 d] 32) := by
  go_enter Tryd.func110, Tryd.ntmps110
  go_wp2
  exact bodyPost_ret (results_cell_row rfl _ _ w.heap.size 32 #[.int .i64 4, .int .i64 rd, .int .i64 link, .int .i64 0, .int .i64 d] (0, 0) _ rfl (heap_alloc_new w _) Tryd.underlying32 rfl Tryd_sizeIns) rfl ⟨rfl, rfl⟩
set_option maxRecDepth 20000 in
set_option maxHeartbeats 4000000 in
theorem acode1_any (rd link d : Int) (w : World) : Calls Tryd.prog 108 #[.int .i64 rd, .int .i64 link, .int .i64 d] w (PairTo link ⟨4, rd, link, 0, restI d⟩ d w) := by
  have HF := Lib.hid (fun W => afar_any d W)
  have HR := Lib.hid (show restI d = wrap64 (d - wrap64 (farH d * 4096)) from rfl)
  have HP : ∀ v w', OwnI w' w.heap.size v [⟨2, link, 0, 0, farH d⟩, ⟨4, rd, link, 0, restI d⟩] → Below w.heap.size w w' → PairTo link ⟨4, rd, link, 0, restI d⟩ d w (.returned (.tuple #[v, .bool (farB d)])) w' := fun v w' h1 h2 => ⟨v, rfl, h1, h2⟩
  have HPh := Lib.hid HP
  clear HP
  generalize PairTo link ⟨4, rd, link, 0, restI d⟩ d w = PP at *
  generalize farH d = h at *
  generalize farB d = fb at *
  go_enter Tryd.func108, Tryd.ntmps108
  go_wp2_with (first | (go_at_call 135; (with_reducible refine (HF.out _).mono ?_); rintro e w' ⟨rfl, rfl⟩) | (go_at_call 110; refine (acode11_any _ rd link w.heap.size (w.heap.size + 1) _ (by go_simp) (by go_simp) (by simp; omega) (by simp)).mono ?_; rintro e w' ⟨rfl, rfl⟩) | go_in)
  show PP (.returned (.tuple #[.slice (some ⟨w.heap.size + 1 + 1 + 1, 0, none⟩) 2 2, .bool fb])) _
  refine HPh.out _ _ ?_ (below4 w _ _ _ _)
  rw [HR.out]
  exact own_lit2 w _ _ _ ⟨2, link, 0, 0, h⟩ ⟨4, rd, link, 0, wrap64 (d - wrap64 (h * 4096))⟩
theorem below2 (w : World) (a b : Obj) : Below w.heap.size w ((w.alloc a).alloc b) := form2 w a b
theorem own_lit1 (w : World) (a : Obj) (i j : In) : OwnI ((w.alloc a).alloc (.cells #[.int .i64 i.op, .int .i64 i.rd, .int .i64 i.a, .int .i64 i.b, .int .i64 i.n, .int .i64 j.op, .int .i64 j.rd, .int .i64 j.a, .int .i64 j.b, .int .i64 j.n] 32)) w.heap.size (.slice (some ⟨w.heap.size + 1, 0, none⟩) 2 2) [i, j] := by
  have h := World.ownsRow_lit (base := w.heap.size) (e := 32) (size := 5) (w.alloc a) #[.int .i64 i.op, .int .i64 i.rd, .int .i64 i.a, .int .i64 i.b, .int .i64 i.n, .int .i64 j.op, .int .i64 j.rd, .int .i64 j.a, .int .i64 j.b, .int .i64 j.n] 2 (by rw [World.size_alloc]; omega) (by decide) rfl
  rw [World.size_alloc] at h
  exact h
set_option maxRecDepth 20000 in
theorem acode2_any (d rd : Int) (b : Nat) (w : World) (h1 : w.cell? ⟨b, 3, none⟩ = some (.int .i64 rd)) (l1 : b < w.heap.size) :
    Calls Tryd.prog 111 #[.int .i64 d, .pointer (some ⟨b, 0, none⟩)] w fun e w' => e = .returned (.agg #[.int .i64 22, .int .i64 rd, .int .i64 rd, .int .i64 0, .int .i64 d]) ∧ w' = w.alloc (.cells #[.int .i64 22, .int .i64 rd, .int .i64 rd, .int .i64 0, .int .i64 d] 32) := by
  go_enter Tryd.func111, Tryd.ntmps111
  go_wp2
  exact bodyPost_ret (results_cell_row rfl _ _ w.heap.size 32 #[.int .i64 22, .int .i64 rd, .int .i64 rd, .int .i64 0, .int .i64 d] (0, 0) _ rfl (heap_alloc_new w _) Tryd.underlying32 rfl Tryd_sizeIns) rfl ⟨rfl, rfl⟩
set_option maxRecDepth 20000 in
set_option maxHeartbeats 4000000 in
theorem apairLa_any (rd d : Int) (b : Nat) (w : World) (hc : w.cell? ⟨b, 3, none⟩ = some (.int .i64 rd)) (hl : b < w.heap.size) : Calls Tryd.prog 109 #[.int .i64 rd, .int .i64 d, .func (.func 111) #[] #[.pointer (some ⟨b, 0, none⟩)]] w (PairTo rd ⟨22, rd, rd, 0, restI d⟩ d w) := by
  have HF := Lib.hid (fun W => afar_any d W)
  have HR := Lib.hid (show restI d = wrap64 (d - wrap64 (farH d * 4096)) from rfl)
  have HP : ∀ v w', OwnI w' w.heap.size v [⟨2, rd, 0, 0, farH d⟩, ⟨22, rd, rd, 0, restI d⟩] → Below w.heap.size w w' → PairTo rd ⟨22, rd, rd, 0, restI d⟩ d w (.returned (.tuple #[v, .bool (farB d)])) w' := fun v w' h1 h2 => ⟨v, rfl, h1, h2⟩
  have HPh := Lib.hid HP
  clear HP
  generalize PairTo rd ⟨22, rd, rd, 0, restI d⟩ d w = PP at *
  generalize farH d = h at *
  generalize farB d = fb at *
  go_enter Tryd.func109, Tryd.ntmps109
  go_wp2_with (first | (go_at_call 135; (with_reducible refine (HF.out _).mono ?_); rintro e w' ⟨rfl, rfl⟩) | (go_at_call 111; refine (acode2_any _ rd b _ hc hl).mono ?_; rintro e w' ⟨rfl, rfl⟩) | go_in)
  show PP (.returned (.tuple #[.slice (some ⟨_ + 1, 0, none⟩) 2 2, .bool fb])) _
  refine HPh.out _ _ ?_ (below2 _ _ _)
  rw [HR.out]
  exact own_lit1 _ _ ⟨2, rd, 0, 0, h⟩ ⟨22, rd, rd, 0, wrap64 (d - wrap64 (h * 4096))⟩
end Go.Proofs
