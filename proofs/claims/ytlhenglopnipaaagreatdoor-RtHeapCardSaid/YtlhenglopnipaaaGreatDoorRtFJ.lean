/- patina/rt: the place of the label rt.start: slices.IndexFunc with its predicate. -/
import Derived.Test.YtlhenglopnipaaaGreatDoorFitsA
import Derived.Test.YtlhenglopnipaaaGreatDoorFiles
import Derived.Test.YtlhenglopnipaaaGreatDoorRtAE
namespace Go.Pat
open Go Go.RowKit
def nmStart : ByteArray := ⟨#[114, 116, 46, 115, 116, 97, 114, 116]⟩
theorem nmStart_list : nmStart.toList = [114, 116, 46, 115, 116, 97, 114, 116] := by decide +kernel
/-- the place of a name among labels; -1: none. -/
def ixL : List Lab → ByteArray → Int → Int
  | [], _, _ => -1
  | x :: r, s, n => if x.1.toList = s.toList then n else ixL r s (n + 1)
theorem ixL_drop (l : List Lab) (s : ByteArray) (k : Nat) (hk : k < l.length) (n : Int) : ixL (l.drop k) s n = if l[k].1.toList = s.toList then n else ixL (l.drop (k + 1)) s (n + 1) := by
  rw [List.drop_eq_getElem_cons hk]; rfl
theorem ixL_find (l : List Lab) (s : ByteArray) (n : Int) : (ixL l s n = -1 ∧ (findM l s).2 = false) ∨ ∃ k, ∃ h : k < l.length, ixL l s n = n + k ∧ findM l s = (l[k].2, true) := by
  induction l generalizing n with
  | nil => exact .inl ⟨rfl, rfl⟩
  | cons x r ih =>
    unfold ixL findM
    by_cases hx : x.1.toList = s.toList
    · rw [if_pos hx, if_pos hx]
      exact .inr ⟨0, by simp, by simp, rfl⟩
    · rw [if_neg hx, if_neg hx]
      rcases ih (n + 1) with ⟨h1, h2⟩ | ⟨k, hk, h1, h2⟩
      · exact .inl ⟨h1, h2⟩
      · exact .inr ⟨k + 1, by simp; omega, by rw [h1]; omega, by rw [h2]; rfl⟩
end Go.Pat
namespace Go.Proofs
open Go Go.RowKit Go.Pat
set_option maxHeartbeats 4000000 in
theorem image1_any (w : World) (q : ByteArray) (ad : Int) : Calls Tryz.prog 47 #[.agg #[.string q, .int .u64 ad]] w fun e w' => e = .returned (.bool (q.toList == nmStart.toList)) ∧ Below w.heap.size w w' := by
  have HB := Lib.hid (form1 w (.cells #[.string q, .int .u64 ad] 88))
  rw [nmStart_list]
  go_enter Tryz.func47, Tryz.ntmps47
  go_wp2
  go_ret
  exact ⟨rfl, HB.out⟩
set_option maxRecDepth 20000 in
set_option maxHeartbeats 8000000 in
theorem lindex_any (w : World) (A : Option Addr) (c : Nat) (l : List Lab) (h : Cs w.heap.size w A (lcells l)) (hlen : l.length ≤ 9223372036854775807) :
    Calls Tryz.prog 46 #[.slice A l.length c, .func (.func 47) #[] #[]] w fun e w' => e = .returned (.int .i64 (ixL l nmStart 0)) ∧ Below w.heap.size w w' := by
  obtain ⟨v, hv⟩ : ∃ v, ixL l nmStart 0 = v := ⟨_, rfl⟩
  rw [hv]
  have HV := Lib.hid (show ixL (l.drop 0) nmStart ((0 : Nat) : Int) = v from hv)
  clear hv
  go_enter Tryz.func46, Tryz.ntmps46
  go_wp2_with fail
  go_loopw [8] (fun i wr => ∃ k : Nat, k ≤ l.length ∧ i = .int .i64 k ∧ ixL (l.drop k) nmStart (k : Int) = v ∧ Below w.heap.size w wr) (fun i _ => l.length - (intOf i).toNat)
  case atStart => exact ⟨0, Nat.zero_le _, rfl, HV.out, Below.refl _ _⟩
  case round =>
    obtain ⟨k, hk, rfl, hd, hB⟩ := hrel
    by_cases hlt : k < l.length
    · have t1 : decide ((k : Int) < (l.length : Int)) = true := decide_eq_true (by omega)
      have hku : (k : Int) < (l.length : Int) := by omega
      obtain ⟨b, o, rfl, hb, y0, y1⟩ := lab_at (h.below hB) k hlt
      rw [ixL_drop _ _ k hlt] at hd
      generalize l[k].1 = q at *
      generalize l[k].2 = ad at *
      by_cases hq : q.toList = nmStart.toList
      · rw [if_pos hq] at hd
        have tq : (q.toList == nmStart.toList) = true := by simpa using hq
        have HF := Lib.hid hd
        have HT := Lib.hid tq
        clear hd hq tq
        go_wp2_with fail
        refine Calls.mono (image1_any _ q ad) ?_
        rintro e w1 ⟨rfl, hB1⟩
        rw [HT.out]
        go_wp2_with fail
        go_ret
        exact ⟨by rw [← HF.out]; rfl, hB.trans (hB1.mono hB.size)⟩
      · rw [if_neg hq] at hd
        have tq : (q.toList == nmStart.toList) = false := by simpa using hq
        have HF := Lib.hid hd
        have HT := Lib.hid tq
        clear hd hq tq
        go_wp2_with fail
        refine Calls.mono (image1_any _ q ad) ?_
        rintro e w1 ⟨rfl, hB1⟩
        rw [HT.out]
        go_wp2_with fail
        go_roundw
        case rel => exact ⟨k + 1, by omega, by go_num, by rw [← HF.out]; congr 1, hB.trans (hB1.mono hB.size)⟩
        case measure => simp [intOf]; omega
    · have t1 : decide ((k : Int) < (l.length : Int)) = false := decide_eq_false (by omega)
      obtain rfl : k = l.length := by omega
      rw [List.drop_length] at hd
      have HF := Lib.hid hd
      clear hd
      go_wp2_with fail
      go_ret
      exact ⟨by rw [← HF.out]; rfl, hB⟩
end Go.Proofs

/- patina/rt: a segment is added to an image. -/
namespace Go.Proofs
open Go Go.RowKit Go.Pat
set_option maxRecDepth 20000 in
set_option maxHeartbeats 4000000 in
theorem bclone_nil (w : World) : Calls Tryz.prog 49 #[.slice none 0 0] w fun e w' => e = .returned (.slice none 0 0) ∧ Below w.heap.size w w' := by
  have q : (binOp .eql 35 (.slice none 0 0) (.slice none 0 0)).run Tryz.prog w = .ok (.bool true) w := Lib.run_eql_slice_nil w _ _ none 0 0 0 0 Tryz.underlying35
  go_enter Tryz.func49, Tryz.ntmps49
  go_wp2
  go_ret
  exact ⟨rfl, Below.refl _ _⟩
theorem OwnSs.base {w : World} {base b2 : Nat} {v : Value} {ss : List Sg} (h : OwnSs w base v ss) (hb : b2 ≤ base) : OwnSs w b2 v ss := ⟨h.row.base hb, fun s hs => (h.bytes s hs).base hb, h.small⟩
/-- a copy of bytes, or of none. -/
theorem bclone_both (w : World) (A : Option Addr) (c : Nat) (l : List UInt8) (hr : Bs w.heap.size w A l) (hl : l.length ≤ 140737488355328) (hn : A = none → l = [] ∧ c = 0) :
    Calls Tryz.prog 49 #[.slice A l.length c] w fun e w' => ∃ A2 c2, e = .returned (.slice A2 l.length c2) ∧ OwnB w' w.heap.size (.slice A2 l.length c2) l ∧ Below w.heap.size w w' := by
  cases A with
  | none =>
    obtain ⟨rfl, rfl⟩ := hn rfl
    refine (bclone_nil w).mono ?_
    rintro e w' ⟨rfl, hB⟩
    exact ⟨none, 0, rfl, .nil _ _, hB⟩
  | some a =>
    refine (bclone_any w a c l hr hl).mono ?_
    rintro e w' ⟨v, rfl, ho, -, hB⟩
    obtain ⟨A2, c2, rfl, -⟩ := ho.form
    exact ⟨A2, c2, rfl, ho, hB⟩
def AddTo (B ob : Nat) (entry : Int) (ss : List Sg) (at_ : Nat) (perm : Int) (data : List UInt8) (size : Nat) (w : World) (e : Ending) (w' : World) : Prop :=
  e = .returned (.tuple #[]) ∧ ∃ v A c, w'.heap[ob]? = some (.cells #[.int .u64 entry, v] 59 (0, 0)) ∧ OwnSs w' B v (ss ++ [⟨at_, perm, A, c, data, size⟩]) ∧ B ≤ w'.heap.size ∧ KeptBut (Wr B ob) w w'
set_option maxRecDepth 20000 in
set_option maxHeartbeats 16000000 in
theorem rtadd_any (B ob : Nat) (entry : Int) (v : Value) (ss : List Sg) (at_ : Nat) (perm : Int) (A : Option Addr) (c : Nat) (data : List UInt8) (size : Nat) (w : World) (hbx : w.heap[ob]? = some (.cells #[.int .u64 entry, v] 59 (0, 0))) (hown : OwnSs w B v ss) (hBw : B ≤ w.heap.size)
    (hd : Bs w.heap.size w A data) (hdl : data.length ≤ 140737488351232) (hn : A = none → data = [] ∧ c = 0) (hat : at_ < 18446744073709551616) (hsz : size < 9223372036854775808) (hss : ss.length + 1 ≤ 1000) :
    Calls Tryz.prog 48 #[.int .u64 (at_ : Int), .int .i64 perm, .slice A data.length c, .int .i64 (size : Int), .pointer (some ⟨ob, 0, none⟩)] w (AddTo B ob entry ss at_ perm data size w) := by
  obtain ⟨Av, cv, rfl, -⟩ := hown.row.form
  have hol := lt_of_block hbx
  have y0 : w.cell? ⟨ob, 1, none⟩ = some (.slice Av ss.length cv) := obj_cell hbx 1
  have hBd : Below w.heap.size w w.drew := (Below.refl _ _).drew
  have HC := Lib.hid (bclone_both w.drew A c data (hd.below hBd) (by omega) hn)
  have hcv : IntKind.u64.wrap (size : Int) = (size : Int) := by rw [IntKind.wrap_u64]; omega
  have HO := Lib.hid (And.intro hbx hown)
  clear hd hn hbx hown
  go_enter Tryz.func48, Tryz.ntmps48
  go_upto_region 0 with fail
  go_region_law (first
    | (go_simp
       go_at_call 49
       with_reducible refine HC.out.mono ?_
       rintro e w1 ⟨A2, c2, rfl, ho1, hB1⟩
       have hB01 : Below w.heap.size w w1 := hBd.trans hB1
       have hbx1 := (hB01.block _ hol).trans HO.out.1
       have y1 : w1.cell? ⟨ob, 1, none⟩ = some (.slice Av ss.length cv) := obj_cell hbx1 1
       have hol1 := lt_of_block hbx1
       have l1 : ∀ o, (w1.alloc o).cell? ⟨ob, 1, none⟩ = some (.slice Av ss.length cv) := fun o => (World.cell?_alloc_lt w1 _ ⟨ob, 1, none⟩ hol1).trans y1
       have hs1 := hB01.size)
    | (refine step_appS rfl (.tmp 10) (.tmp 18) rfl B (.slice Av ss.length cv) ss (by rfl) ((HO.out.2.below hB01).below ((Below.refl _ _).alloc (Nat.le_refl _) (.cells #[.int .u64 (at_ : Int), .int .i64 perm, .slice A2 data.length c2, .int .u64 (size : Int)] 66))) w1.heap.size 1 ⟨at_, perm, A2, c2, data, size⟩ (by rfl) (heap_alloc_new w1 (.cells #[.int .u64 (at_ : Int), .int .i64 perm, .slice A2 data.length c2, .int .u64 (size : Int)] 66)) ((ho1.base hBw).alloc _) ⟨hat, (show size < 18446744073709551616 by omega), hdl⟩ hss (by rw [World.size_alloc]; omega) ?_
       intro v6 w6 h6 hB6 hk6
       have hbx6 := (hk6 ob (by rw [World.size_alloc]; omega) (fun e => by obtain ⟨_, cur, hcu⟩ := HO.out.2.row.block e; rw [HO.out.1] at hcu; cases hcu)).trans ((Below.heap_alloc w1 (.cells #[.int .u64 (at_ : Int), .int .i64 perm, .slice A2 data.length c2, .int .u64 (size : Int)] 66) ob hol1).trans hbx1)
       obtain ⟨A6, c6, rfl, -⟩ := h6.row.form
       have y6 : w6.cell? ⟨ob, 1, none⟩ = some (.slice Av ss.length cv) := obj_cell hbx6 1
       have f6 := obj_frozen hbx6 1))
  all_goals
    go_wp2
    go_end0
    have hk : ∀ v g, g ≠ ob → (w6.setCell ⟨ob, 1, none⟩ v).heap[g]? = w6.heap[g]? := fun v g hg => Below.heap_setCell _ _ _ _ hg
    rw [show (ss ++ [(⟨at_, perm, A2, c2, data, size⟩ : Sg)]).length = ss.length + 1 by simp] at h6
    have hs6 : w1.heap.size ≤ w6.heap.size := by
      have h1 := (hB6 (w1.alloc (.cells #[.int .u64 (at_ : Int), .int .i64 perm, .slice A2 data.length c2, .int .u64 (size : Int)] 66)) (Below.refl _ _)).size
      rw [World.size_alloc] at h1
      omega
    refine ⟨rfl, _, A2, c2, (obj_set hbx6 1 _).trans (by simp), h6.keepT fun g cur t hc ht => hk _ g (by rintro rfl; rw [hbx6] at hc; cases hc; rcases ht with ht | ht <;> cases ht), by simp [World.setCell]; omega, ?_⟩
    have hB16 := hB6 w1 (show Below B w1 _ from (Below.refl _ _).alloc (by omega) _)
    have h7 : KeptBut (Wr B ob) w1 w6 := ⟨hB16.os, hB16.tape, hB16.output, hB16.size, fun g hg hn => hB16.block g (by have : ¬ B ≤ g := fun h => hn (.inr h); omega)⟩
    exact KeptBut.setCell ((KeptBut.of_below hB01).trans h7) _ (.inl rfl) _
end Go.Proofs

/- patina/rt.Image. -/
namespace Go.Pat
open Go Go.RowKit
/-- what makes Image refuse. -/
def imgB (t d : List UInt8) (ls : List Lab) : Bool := decide (ixL ls nmStart 0 < 0) || (decide (t.length = 0) || (decide (16711680 < t.length) || decide (16777216 < d.length)))
/-- an image's segments. -/
def imgL (t d : List UInt8) : List Sgd := [⟨65536, 5, t, t.length⟩] ++ (if d.length = 0 then [] else [⟨16777216, 6, d, d.length⟩]) ++ [⟨33554432, 6, [], 262144⟩]
end Go.Pat
namespace Go.Proofs
open Go Go.RowKit Go.Pat
theorem Tryz_sizeImg : (Tryz.prog.info? 59).map (·.size) = some 2 := by kernel_rfl
theorem img_load (b : Nat) (x y : Value) (W : World) (hb : W.heap[b]? = some (.cells #[x, y] 59 (0, 0))) : (loadVar 59 ⟨b, 0, none⟩).run Tryz.prog W = .ok (.agg #[x, y]) W := by
  have := run_loadVar_mid (P := Tryz.prog) W b 0 59 [x, y] _ (fun j v hv => by rw [Nat.zero_add, cell_of_row _ _ j _ _ (0, 0) hb]; simpa using hv) Tryz.underlying59 rfl (by exact Tryz_sizeImg)
  simpa using this
theorem results_img (fn : Func) (hf : fn.results = #[.cell 2 59, .tmp 3]) (tmps : Array Value) (b : Nat) (x y : Value) (W : World) (v3 : Value) (h2 : tmps[2]?.getD undef = .pointer (some ⟨b, 0, none⟩)) (h3 : tmps[3]?.getD undef = v3)
    (hb : W.heap[b]? = some (.cells #[x, y] 59 (0, 0))) : (results fn tmps).run Tryz.prog W = .ok (.tuple #[.agg #[x, y], v3]) W := by
  have hl := img_load b x y W hb
  unfold results
  rw [hf]
  simp [h2, h3, asAddr, hl]
theorem img_set {w : World} {b : Nat} {x y : Value} (h : w.heap[b]? = some (.cells #[x, y] 59 (0, 0))) (x' y' : Value) : ((w.setCell ⟨b, 0, none⟩ x').setCell ⟨b, 1, none⟩ y').heap[b]? = some (.cells #[x', y'] 59 (0, 0)) := by
  have h1 := obj_set h 0 x'
  have h2 := obj_set h1 1 y'
  rw [h2]
  rfl
def ImageTo (t d : List UInt8) (ls : List Lab) (w : World) (e : Ending) (w' : World) : Prop := Below w.heap.size w w' ∧
  ((imgB t d ls = true ∧ e = .returned (.tuple #[.agg #[.int .u64 0, .slice none 0 0], .int .i64 1])) ∨
   (imgB t d ls = false ∧ ∃ v ss, e = .returned (.tuple #[.agg #[.int .u64 ((findM ls nmStart).1 : Int), v], .int .i64 0]) ∧ OwnSs w' w.heap.size v ss ∧ ss.map Sg.d = imgL t d))
set_option maxRecDepth 20000 in
set_option maxHeartbeats 32000000 in
theorem rtImage_bad (w : World) (TA DA LA : Option Addr) (tc dc lc : Nat) (t d : List UInt8) (ls : List Lab) (hL : Cs w.heap.size w LA (lcells ls)) (hll : ls.length ≤ 9223372036854775807) (hb : imgB t d ls = true) :
    Calls Tryz.prog 20 #[.agg #[.slice TA t.length tc, .slice DA d.length dc, .slice LA ls.length lc]] w (ImageTo t d ls w) := by
  obtain ⟨W, hW⟩ : ∃ W : World, W = (w.alloc (.cells #[.slice TA t.length tc, .slice DA d.length dc, .slice LA ls.length lc] 53)).alloc (.cells #[.int .u64 0, .slice none 0 0] 59) := ⟨_, rfl⟩
  have hsz : W.heap.size = w.heap.size + 2 := by rw [hW]; simp
  have hc0 : W.heap[w.heap.size]? = some (.cells #[.slice TA t.length tc, .slice DA d.length dc, .slice LA ls.length lc] 53 (0, 0)) := by
    rw [hW, heap_alloc_old _ _ (by simp), heap_alloc_new]
  have hc1 : W.heap[w.heap.size + 1]? = some (.cells #[.int .u64 0, .slice none 0 0] 59 (0, 0)) := by
    have := heap_alloc_new (w.alloc (.cells #[.slice TA t.length tc, .slice DA d.length dc, .slice LA ls.length lc] 53)) (.cells #[.int .u64 0, .slice none 0 0] 59)
    rw [World.size_alloc] at this
    rw [hW, this]
  have hBW : Below w.heap.size w W := by rw [hW]; exact ((Below.refl _ _).alloc (Nat.le_refl _) _).alloc (by simp) _
  have x2 : W.cell? ⟨w.heap.size, 2, none⟩ = some (.slice LA ls.length lc) := obj_cell hc0 2
  have HI := Lib.hid (lindex_any W LA lc ls ((hL.below hBW).more hBW.size) hll)
  have HW := Lib.hid hW
  have HC := Lib.hid (And.intro hc0 (And.intro hc1 (And.intro hBW hb)))
  generalize hz : ixL ls nmStart 0 = z at *
  unfold imgB at hb
  rw [hz] at hb
  clear hW hc0 hc1 hL hz hBW
  go_enter Tryz.func20, Tryz.ntmps20
  go_upto_region 1 with fail
  rw [← HW.out]
  go_wp2_with fail
  refine Calls.mono HI.out ?_
  rintro e w1 ⟨rfl, hB1⟩
  have h10 := (hB1.block w.heap.size (by omega)).trans HC.out.1
  have h11 := (hB1.block (w.heap.size + 1) (by omega)).trans HC.out.2.1
  have y0 : w1.cell? ⟨w.heap.size, 0, none⟩ = some (.slice TA t.length tc) := obj_cell h10 0
  have y1 : w1.cell? ⟨w.heap.size, 1, none⟩ = some (.slice DA d.length dc) := obj_cell h10 1
  have z0 : w1.cell? ⟨w.heap.size + 1, 0, none⟩ = some (.int .u64 0) := obj_cell h11 0
  have z1 : w1.cell? ⟨w.heap.size + 1, 1, none⟩ = some (.slice none 0 0) := obj_cell h11 1
  have f0 := obj_frozen h11 0
  have f1 := obj_frozen h11 1
  have hl1 := lt_of_block h11
  have HK := Lib.hid (And.intro h11 (show Below w.heap.size w w1 from HC.out.2.2.1.trans (hB1.mono HC.out.2.2.1.size)))
  clear h10 h11 hB1
  cases c1 : decide (z < 0)
  rotate_left
  · clear hb
    go_wp2_with fail
    refine bodyPost_ret (results_img _ rfl _ (w.heap.size + 1) _ _ _ _ rfl rfl (img_set HK.out.1 _ _)) rfl ?_
    exact ⟨(HK.out.2.setCell (p := ⟨w.heap.size + 1, 0, none⟩) (Nat.le_succ _) _).setCell (p := ⟨w.heap.size + 1, 1, none⟩) (Nat.le_succ _) _, .inl ⟨HC.out.2.2.2, rfl⟩⟩
  cases c2 : ((t.length : Int) == 0)
  rotate_left
  · clear hb
    go_wp2_with fail
    refine bodyPost_ret (results_img _ rfl _ (w.heap.size + 1) _ _ _ _ rfl rfl (img_set HK.out.1 _ _)) rfl ?_
    exact ⟨(HK.out.2.setCell (p := ⟨w.heap.size + 1, 0, none⟩) (Nat.le_succ _) _).setCell (p := ⟨w.heap.size + 1, 1, none⟩) (Nat.le_succ _) _, .inl ⟨HC.out.2.2.2, rfl⟩⟩
  cases c3 : decide ((16711680 : Int) < (t.length : Int))
  rotate_left
  · clear hb
    go_wp2_with fail
    refine bodyPost_ret (results_img _ rfl _ (w.heap.size + 1) _ _ _ _ rfl rfl (img_set HK.out.1 _ _)) rfl ?_
    exact ⟨(HK.out.2.setCell (p := ⟨w.heap.size + 1, 0, none⟩) (Nat.le_succ _) _).setCell (p := ⟨w.heap.size + 1, 1, none⟩) (Nat.le_succ _) _, .inl ⟨HC.out.2.2.2, rfl⟩⟩
  cases c4 : decide ((16777216 : Int) < (d.length : Int))
  rotate_left
  · clear hb
    go_wp2_with fail
    refine bodyPost_ret (results_img _ rfl _ (w.heap.size + 1) _ _ _ _ rfl rfl (img_set HK.out.1 _ _)) rfl ?_
    exact ⟨(HK.out.2.setCell (p := ⟨w.heap.size + 1, 0, none⟩) (Nat.le_succ _) _).setCell (p := ⟨w.heap.size + 1, 1, none⟩) (Nat.le_succ _) _, .inl ⟨HC.out.2.2.2, rfl⟩⟩
  exfalso
  simp only [Bool.or_eq_true, decide_eq_true_eq, decide_eq_false_iff_not, beq_eq_false_iff_ne] at *
  omega
theorem lab_some {ls : List Lab} {z : Int} (hz : ixL ls nmStart 0 = z) (h : ¬ z < 0) : ∃ k, ∃ h : k < ls.length, z = k ∧ findM ls nmStart = (ls[k].2, true) := by
  rcases ixL_find ls nmStart 0 with ⟨h1, -⟩ | ⟨k, hk, h1, h2⟩
  · rw [h1] at hz; omega
  · exact ⟨k, hk, by rw [← hz, h1]; omega, h2⟩
set_option maxRecDepth 20000 in
set_option maxHeartbeats 32000000 in
theorem rtImage_good (w : World) (TA DA LA : Option Addr) (tc dc lc : Nat) (t d : List UInt8) (ls : List Lab) (hT : Bs w.heap.size w TA t) (hD : Bs w.heap.size w DA d) (hL : Cs w.heap.size w LA (lcells ls)) (hll : ls.length ≤ 9223372036854775807) (hb : imgB t d ls = false) :
    Calls Tryz.prog 20 #[.agg #[.slice TA t.length tc, .slice DA d.length dc, .slice LA ls.length lc]] w (ImageTo t d ls w) := by
  obtain ⟨W, hW⟩ : ∃ W : World, W = (w.alloc (.cells #[.slice TA t.length tc, .slice DA d.length dc, .slice LA ls.length lc] 53)).alloc (.cells #[.int .u64 0, .slice none 0 0] 59) := ⟨_, rfl⟩
  have hsz : W.heap.size = w.heap.size + 2 := by rw [hW]; simp
  have hc0 : W.heap[w.heap.size]? = some (.cells #[.slice TA t.length tc, .slice DA d.length dc, .slice LA ls.length lc] 53 (0, 0)) := by
    rw [hW, heap_alloc_old _ _ (by simp), heap_alloc_new]
  have hc1 : W.heap[w.heap.size + 1]? = some (.cells #[.int .u64 0, .slice none 0 0] 59 (0, 0)) := by
    have := heap_alloc_new (w.alloc (.cells #[.slice TA t.length tc, .slice DA d.length dc, .slice LA ls.length lc] 53)) (.cells #[.int .u64 0, .slice none 0 0] 59)
    rw [World.size_alloc] at this
    rw [hW, this]
  have hBW : Below w.heap.size w W := by rw [hW]; exact ((Below.refl _ _).alloc (Nat.le_refl _) _).alloc (by simp) _
  have x2 : W.cell? ⟨w.heap.size, 2, none⟩ = some (.slice LA ls.length lc) := obj_cell hc0 2
  have HI := Lib.hid (lindex_any W LA lc ls ((hL.below hBW).more hBW.size) hll)
  have HW := Lib.hid hW
  have HC := Lib.hid (And.intro hc0 (And.intro hc1 (And.intro hBW hb)))
  have HD := Lib.hid (And.intro hT (And.intro hD hL))
  unfold imgB at hb
  obtain ⟨z, hz⟩ : ∃ z, ixL ls nmStart 0 = z := ⟨_, rfl⟩
  rw [hz] at hb HI
  simp only [Bool.or_eq_false_iff, decide_eq_false_iff_not] at hb
  obtain ⟨k, hk, rfl, hfd⟩ := lab_some hz hb.1
  have c1 : decide ((k : Int) < 0) = false := decide_eq_false hb.1
  have c2 : ((t.length : Int) == 0) = false := by simp only [beq_eq_false_iff_ne]; omega
  have c3 : decide ((16711680 : Int) < (t.length : Int)) = false := decide_eq_false (by omega)
  have c4 : decide ((16777216 : Int) < (d.length : Int)) = false := decide_eq_false (by omega)
  have hku : (k : Int) < (ls.length : Int) := by omega
  have HF := Lib.hid (And.intro hfd hb)
  have htn : TA = none → t = [] ∧ tc = 0 := fun e => by
    obtain ⟨_, _, e2, _⟩ := hT.at_ 0 (by omega)
    rw [e] at e2; cases e2
  have HTN := Lib.hid htn
  clear hW hc0 hc1 hT hD hL hz hBW hfd htn hb
  go_enter Tryz.func20, Tryz.ntmps20
  go_upto_region 1 with fail
  rw [← HW.out]
  go_wp2_with fail
  refine Calls.mono HI.out ?_
  rintro e w1 ⟨rfl, hB1⟩
  have hBw1 : Below w.heap.size w w1 := HC.out.2.2.1.trans (hB1.mono HC.out.2.2.1.size)
  have h10 := (hB1.block w.heap.size (by omega)).trans HC.out.1
  have h11 := (hB1.block (w.heap.size + 1) (by omega)).trans HC.out.2.1
  have y0 : w1.cell? ⟨w.heap.size, 0, none⟩ = some (.slice TA t.length tc) := obj_cell h10 0
  have y1 : w1.cell? ⟨w.heap.size, 1, none⟩ = some (.slice DA d.length dc) := obj_cell h10 1
  have y2 : w1.cell? ⟨w.heap.size, 2, none⟩ = some (.slice LA ls.length lc) := obj_cell h10 2
  have hl1 := lt_of_block h11
  obtain ⟨lb, lo, rfl, hlb, -, ya⟩ := lab_at (HD.out.2.2.below hBw1) k hk
  have hlb1 : lb < w1.heap.size := Nat.lt_of_lt_of_le hlb hBw1.size
  obtain ⟨ad, had⟩ : ∃ ad : Nat, ad = ls[k].2 := ⟨_, rfl⟩
  rw [← had] at ya
  obtain ⟨W2, hW2⟩ : ∃ W2 : World, W2 = w1.alloc (.cells #[.int .u64 (ad : Int), .slice none 0 0] 59) := ⟨_, rfl⟩
  have hb2 : W2.heap[w1.heap.size]? = some (.cells #[.int .u64 (ad : Int), .slice none 0 0] 59 (0, 0)) := by rw [hW2]; exact heap_alloc_new w1 _
  have hB12 : Below w1.heap.size w1 W2 := by rw [hW2]; exact (Below.refl _ _).alloc (Nat.le_refl _) _
  have hs2 := lt_of_block hb2
  have h20 := (hB12.block w.heap.size (by omega)).trans h10
  have h21 := (hB12.block (w.heap.size + 1) (by omega)).trans h11
  have u0 : ∀ o, (w1.alloc o).cell? ⟨w.heap.size, 0, none⟩ = some (.slice TA t.length tc) := fun o => (World.cell?_alloc_lt w1 _ ⟨w.heap.size, 0, none⟩ (show w.heap.size < w1.heap.size by omega)).trans y0
  have hBw2 : Below w.heap.size w W2 := hBw1.trans (hB12.mono hBw1.size)
  have HA1 := Lib.hid (rtadd_any (w1.heap.size + 1) w1.heap.size (ad : Int) (.slice none 0 0) [] 65536 5 TA tc t t.length W2 hb2 (.nil _ _) hs2 ((HD.out.1.below hBw2).mono hBw2.size) (by have := HF.out.2; omega) HTN.out (by decide) (by have := HF.out.2; omega) (by simp))
  have HW2 := Lib.hid hW2
  have H2 := Lib.hid (And.intro h20 (And.intro h21 (And.intro hBw2 had)))
  clear hW2 hb2 h20 h21 h10 h11 hBw2 hB1 had
  go_wp2_with fail
  rw [← HW2.out]
  refine Calls.mono HA1.out ?_
  rintro e w3 ⟨rfl, v3, A3, e3, hb3, ho3, hs3, hK3⟩
  have h30 := (hK3.block w.heap.size (by omega) (by unfold Wr; omega)).trans H2.out.1
  have h31 := (hK3.block (w.heap.size + 1) (by omega) (by unfold Wr; omega)).trans H2.out.2.1
  have hBw3 : Below w.heap.size w w3 := H2.out.2.2.1.trans (hK3.below H2.out.2.2.1.size (fun g hg => by rcases hg with rfl | hg <;> omega))
  have v1 : w3.cell? ⟨w.heap.size, 1, none⟩ = some (.slice DA d.length dc) := obj_cell h30 1
  rw [List.nil_append] at ho3
  have hFin : ∀ (w4 : World) (v4 : Value) (ss : List Sg), w4.heap[w1.heap.size]? = some (.cells #[.int .u64 (ad : Int), v4] 59 (0, 0)) → OwnSs w4 (w1.heap.size + 1) v4 ss → w1.heap.size + 1 ≤ w4.heap.size → Below w.heap.size w w4 → ss.map Sg.d ++ [⟨33554432, 6, [], 262144⟩] = imgL t d →
      w4.heap[w.heap.size + 1]? = some (.cells #[.int .u64 0, .slice none 0 0] 59 (0, 0)) → ss.length + 1 ≤ 1000 →
      Calls Tryz.prog 48 #[.int .u64 33554432, .int .i64 6, .slice none 0 0, .int .i64 262144, .pointer (some ⟨w1.heap.size, 0, none⟩)] w4 (fun e w5 => e = .returned (.tuple #[]) ∧ ∃ v5 A5 c5, w5.heap[w1.heap.size]? = some (.cells #[.int .u64 (ad : Int), .slice A5 v5 c5] 59 (0, 0)) ∧ w5.heap[w.heap.size + 1]? = some (.cells #[.int .u64 0, .slice none 0 0] 59 (0, 0)) ∧
        ImageTo t d ls w (.returned (.tuple #[.agg #[.int .u64 (ad : Int), .slice A5 v5 c5], .int .i64 0])) ((w5.setCell ⟨w.heap.size + 1, 0, none⟩ (.int .u64 (ad : Int))).setCell ⟨w.heap.size + 1, 1, none⟩ (.slice A5 v5 c5))) := by
    intro w4 v4 ss hb4 ho4 hs4 hB4 hss h4 hlen
    refine (rtadd_any (w1.heap.size + 1) w1.heap.size (ad : Int) v4 ss 33554432 6 none 0 [] 262144 w4 hb4 ho4 hs4 (fun j hj => absurd hj (by simp [bcells])) (by simp) (fun _ => ⟨rfl, rfl⟩) (by decide) (by decide) hlen).mono ?_
    rintro e w5 ⟨rfl, v5, A5, c5, hb5, ho5, hs5, hK5⟩
    obtain ⟨A6, c6, rfl, -⟩ := ho5.row.form
    have h5 := (hK5.block (w.heap.size + 1) (by omega) (by unfold Wr; omega)).trans h4
    have hB5 : Below w.heap.size w w5 := hB4.trans (hK5.below hB4.size (fun g hg => by rcases hg with rfl | hg <;> omega))
    refine ⟨rfl, _, A6, c6, hb5, h5, (hB5.setCell (p := ⟨w.heap.size + 1, 0, none⟩) (Nat.le_succ _) _).setCell (p := ⟨w.heap.size + 1, 1, none⟩) (Nat.le_succ _) _, .inr ⟨HC.out.2.2.2, _, ss ++ [⟨33554432, 6, A5, c5, [], 262144⟩], by rw [HF.out.1, ← H2.out.2.2.2], ?_, ?_⟩⟩
    · have hk : ∀ g, g ≠ w.heap.size + 1 → ((w5.setCell ⟨w.heap.size + 1, 0, none⟩ (.int .u64 (ad : Int))).setCell ⟨w.heap.size + 1, 1, none⟩ (.slice A6 (ss ++ [(⟨33554432, 6, A5, c5, [], 262144⟩ : Sg)]).length c6)).heap[g]? = w5.heap[g]? := fun g hg => (Below.heap_setCell _ _ _ _ hg).trans (Below.heap_setCell _ _ _ _ hg)
      have h6 := ho5.keepT (w' := (w5.setCell ⟨w.heap.size + 1, 0, none⟩ (.int .u64 (ad : Int))).setCell ⟨w.heap.size + 1, 1, none⟩ (.slice A6 (ss ++ [(⟨33554432, 6, A5, c5, [], 262144⟩ : Sg)]).length c6)) (fun g cur t hc ht => hk g (by rintro rfl; rw [h5] at hc; cases hc; rcases ht with ht | ht <;> cases ht))
      exact h6.base (by omega)
    · rw [List.map_append]
      exact hss
  have HFin := Lib.hid hFin
  have H3 := Lib.hid (And.intro hb3 (And.intro ho3 (And.intro hs3 (And.intro hBw3 (And.intro h31 h30)))))
  clear hFin hb3 ho3 hBw3 h31 h30 hK3 HA1
  by_cases hd0 : d.length = 0
  · have q1 : decide (0 < d.length) = false := decide_eq_false (by omega)
    have HS := Lib.hid (show [(⟨65536, 5, A3, e3, t, t.length⟩ : Sg)].map Sg.d ++ [⟨33554432, 6, [], 262144⟩] = imgL t d by simp [imgL, Sg.d, hd0])
    clear hd0
    go_wp2_with fail
    refine Calls.mono (HFin.out w3 v3 _ H3.out.1 H3.out.2.1 H3.out.2.2.1 H3.out.2.2.2.1 HS.out H3.out.2.2.2.2.1 (by simp)) ?_
    rintro e w5 ⟨rfl, v5, A5, c5, hb5, h5, hE⟩
    have HE := Lib.hid hE
    have HB5 := Lib.hid h5
    have p0 : w5.cell? ⟨w1.heap.size, 0, none⟩ = some (.int .u64 (ad : Int)) := obj_cell hb5 0
    have p1 : w5.cell? ⟨w1.heap.size, 1, none⟩ = some (.slice A5 v5 c5) := obj_cell hb5 1
    have p2 : w5.cell? ⟨w.heap.size + 1, 0, none⟩ = some (.int .u64 0) := obj_cell h5 0
    have p3 : w5.cell? ⟨w.heap.size + 1, 1, none⟩ = some (.slice none 0 0) := obj_cell h5 1
    have f0 := obj_frozen h5 0
    have f1 := obj_frozen h5 1
    have hl5 := lt_of_block hb5
    clear hE h5 hb5
    go_wp2_with fail
    exact bodyPost_ret (results_img _ rfl _ (w.heap.size + 1) _ _ _ _ rfl rfl (img_set HB5.out _ _)) rfl HE.out
  · have q1 : decide (0 < d.length) = true := decide_eq_true (by omega)
    have hdn : DA = none → d = [] ∧ dc = 0 := fun e => by
      obtain ⟨_, _, e2, _⟩ := HD.out.2.1.at_ 0 (by omega)
      rw [e] at e2; cases e2
    have HA2 := Lib.hid (rtadd_any (w1.heap.size + 1) w1.heap.size (ad : Int) v3 _ 16777216 6 DA dc d d.length w3 H3.out.1 H3.out.2.1 H3.out.2.2.1 ((HD.out.2.1.below H3.out.2.2.2.1).mono H3.out.2.2.2.1.size) (by have := HF.out.2; omega) hdn (by decide) (by have := HF.out.2; omega) (by simp))
    have HS := Lib.hid (show ∀ A4 e4, ([(⟨65536, 5, A3, e3, t, t.length⟩ : Sg)] ++ [(⟨16777216, 6, A4, e4, d, d.length⟩ : Sg)]).map Sg.d ++ [⟨33554432, 6, [], 262144⟩] = imgL t d from fun A4 e4 => by simp [imgL, Sg.d, hd0])
    clear hd0 hdn
    go_wp2_with fail
    refine Calls.mono HA2.out ?_
    rintro e w4 ⟨rfl, v4, A4, e4, hb4, ho4, hs4, hK4⟩
    have hs34 := hK4.size
    have hBw4 : Below w.heap.size w w4 := H3.out.2.2.2.1.trans (hK4.below H3.out.2.2.2.1.size (fun g hg => by rcases hg with rfl | hg <;> omega))
    have h41 := (hK4.block (w.heap.size + 1) (by have := H3.out.2.2.1; omega) (by unfold Wr; omega)).trans H3.out.2.2.2.2.1
    have HG := Lib.hid (HFin.out w4 v4 _ hb4 ho4 hs4 hBw4 (HS.out A4 e4) h41 (by simp))
    clear hb4 ho4 hBw4 h41 hK4
    go_wp2_with fail
    refine Calls.mono HG.out ?_
    rintro e w5 ⟨rfl, v5, A5, c5, hb5, h5, hE⟩
    have HE := Lib.hid hE
    have HB5 := Lib.hid h5
    have p0 : w5.cell? ⟨w1.heap.size, 0, none⟩ = some (.int .u64 (ad : Int)) := obj_cell hb5 0
    have p1 : w5.cell? ⟨w1.heap.size, 1, none⟩ = some (.slice A5 v5 c5) := obj_cell hb5 1
    have p2 : w5.cell? ⟨w.heap.size + 1, 0, none⟩ = some (.int .u64 0) := obj_cell h5 0
    have p3 : w5.cell? ⟨w.heap.size + 1, 1, none⟩ = some (.slice none 0 0) := obj_cell h5 1
    have f0 := obj_frozen h5 0
    have f1 := obj_frozen h5 1
    have hl5 := lt_of_block hb5
    clear hE h5 hb5
    go_wp2_with fail
    exact bodyPost_ret (results_img _ rfl _ (w.heap.size + 1) _ _ _ _ rfl rfl (img_set HB5.out _ _)) rfl HE.out
theorem rtImage_any (w : World) (TA DA LA : Option Addr) (tc dc lc : Nat) (t d : List UInt8) (ls : List Lab) (hT : Bs w.heap.size w TA t) (hD : Bs w.heap.size w DA d) (hL : Cs w.heap.size w LA (lcells ls)) (hll : ls.length ≤ 9223372036854775807) :
    Calls Tryz.prog 20 #[.agg #[.slice TA t.length tc, .slice DA d.length dc, .slice LA ls.length lc]] w (ImageTo t d ls w) := by
  cases hb : imgB t d ls with
  | true => exact rtImage_bad w TA DA LA tc dc lc t d ls hL hll hb
  | false => exact rtImage_good w TA DA LA tc dc lc t d ls hT hD hL hll hb
end Go.Proofs

/- patinalaw10: li, call, ins: single items. -/
namespace Go.Proofs
open Go Go.RowKit Go.Pat
set_option maxRecDepth 20000 in
set_option maxHeartbeats 4000000 in
theorem l10li_any (rd n : Int) (w : World) : Calls Tryz.prog 10 #[.int .i64 rd, .int .i64 n] w (ItemTo ⟨3, no, 0, rd, 0, 0, n⟩ w) := by
  have HV := Lib.hid (show (⟨3, no, 0, rd, 0, 0, n⟩ : It).cs = #[.int .i64 3, .string no, .int .i64 0, .int .i64 rd, .int .i64 0, .int .i64 0, .int .i64 n] from rfl)
  unfold ItemTo
  generalize (⟨3, no, 0, rd, 0, 0, n⟩ : It).cs = V at *
  go_enter Tryz.func10, Tryz.ntmps10
  go_wp2
  refine bodyPost_ret (results_cell_row rfl _ _ w.heap.size 28 #[.int .i64 3, .string no, .int .i64 0, .int .i64 rd, .int .i64 0, .int .i64 0, .int .i64 n] (0, 0) _ rfl (heap_alloc_new w _) Tryz.underlying28 rfl Tryz_sizeItem) rfl ⟨by rw [HV.out], form1 w _⟩
set_option maxRecDepth 20000 in
set_option maxHeartbeats 4000000 in
theorem l10call_any (s : ByteArray) (w : World) : Calls Tryz.prog 11 #[.string s] w (ItemTo ⟨6, s, 0, 1, 0, 0, 0⟩ w) := by
  have HV := Lib.hid (show (⟨6, s, 0, 1, 0, 0, 0⟩ : It).cs = #[.int .i64 6, .string s, .int .i64 0, .int .i64 1, .int .i64 0, .int .i64 0, .int .i64 0] from rfl)
  unfold ItemTo
  generalize (⟨6, s, 0, 1, 0, 0, 0⟩ : It).cs = V at *
  go_enter Tryz.func11, Tryz.ntmps11
  go_wp2
  refine bodyPost_ret (results_cell_row rfl _ _ w.heap.size 28 #[.int .i64 6, .string s, .int .i64 0, .int .i64 1, .int .i64 0, .int .i64 0, .int .i64 0] (0, 0) _ rfl (heap_alloc_new w _) Tryz.underlying28 rfl Tryz_sizeItem) rfl ⟨by rw [HV.out], form1 w _⟩
set_option maxRecDepth 20000 in
set_option maxHeartbeats 4000000 in
theorem l10ins_any (op rd a b n : Int) (w : World) : Calls Tryz.prog 14 #[.int .i64 op, .int .i64 rd, .int .i64 a, .int .i64 b, .int .i64 n] w (ItemTo ⟨2, no, op, rd, a, b, n⟩ w) := by
  have HV := Lib.hid (show (⟨2, no, op, rd, a, b, n⟩ : It).cs = #[.int .i64 2, .string no, .int .i64 op, .int .i64 rd, .int .i64 a, .int .i64 b, .int .i64 n] from rfl)
  unfold ItemTo
  generalize (⟨2, no, op, rd, a, b, n⟩ : It).cs = V at *
  go_enter Tryz.func14, Tryz.ntmps14
  go_wp2
  refine bodyPost_ret (results_cell_row rfl _ _ w.heap.size 28 #[.int .i64 2, .string no, .int .i64 op, .int .i64 rd, .int .i64 a, .int .i64 b, .int .i64 n] (0, 0) _ rfl (heap_alloc_new w _) Tryz.underlying28 rfl Tryz_sizeItem) rfl ⟨by rw [HV.out], form1 w _⟩
end Go.Proofs
namespace Go.Pat
open Go Go.RowKit
def nmMain : ByteArray := ⟨#[102, 46, 109, 97, 105, 110]⟩
/-- a main that does some items. -/
def mainHead : List It := [⟨1, ⟨#[102, 46, 109, 97, 105, 110]⟩, 0, 0, 0, 0, 0⟩, ⟨2, no, 22, 2, 2, 0, -16⟩, ⟨2, no, 21, 0, 2, 1, 0⟩]
def mainTail : List It := [⟨2, no, 14, 1, 2, 0, 0⟩, ⟨2, no, 22, 2, 2, 0, 16⟩, ⟨2, no, 4, 0, 1, 0, 0⟩]
def bodyL (l : List It) : List It := mainHead ++ l ++ mainTail
theorem it_lit (l : List It) : ∀ (w : World) (t : TypeId), Cs (w.alloc (.cells (tcells l).toArray t)).heap.size (w.alloc (.cells (tcells l).toArray t)) (some ⟨w.heap.size, 0, none⟩) (tcells l) := fun w t j hj => by
  refine ⟨w.heap.size, 0, rfl, by rw [World.size_alloc]; omega, ?_⟩
  rw [Nat.zero_add, cell_of_row _ _ j _ _ (0, 0) (heap_alloc_new w _)]
  simp [hj]
end Go.Pat
namespace Go.Proofs
open Go Go.RowKit Go.Pat
theorem tcells_head : (tcells mainHead).toArray = #[.int .i64 1, .string ⟨#[102, 46, 109, 97, 105, 110]⟩, .int .i64 0, .int .i64 0, .int .i64 0, .int .i64 0, .int .i64 0, .int .i64 2, .string no, .int .i64 22, .int .i64 2, .int .i64 2, .int .i64 0, .int .i64 (-16), .int .i64 2, .string no, .int .i64 21, .int .i64 0, .int .i64 2, .int .i64 1, .int .i64 0] := rfl
theorem tcells_tail : (tcells mainTail).toArray = #[.int .i64 2, .string no, .int .i64 14, .int .i64 1, .int .i64 2, .int .i64 0, .int .i64 0, .int .i64 2, .string no, .int .i64 22, .int .i64 2, .int .i64 2, .int .i64 0, .int .i64 16, .int .i64 2, .string no, .int .i64 4, .int .i64 0, .int .i64 1, .int .i64 0, .int .i64 0] := rfl
theorem l10ins_e (op rd a b n : Int) (w : World) : Calls Tryz.prog 14 #[.int .i64 op, .int .i64 rd, .int .i64 a, .int .i64 b, .int .i64 n] w fun e w' => e = .returned (.agg #[.int .i64 2, .string no, .int .i64 op, .int .i64 rd, .int .i64 a, .int .i64 b, .int .i64 n]) ∧ Below w.heap.size w w' := l10ins_any op rd a b n w
def BodyTo (l : List It) (w : World) (e : Ending) (w' : World) : Prop := ∃ A c, e = .returned (.slice A (bodyL l).length c) ∧ OwnT w' w.heap.size (.slice A (bodyL l).length c) (bodyL l) ∧ Below w.heap.size w w'
set_option maxRecDepth 20000 in
set_option maxHeartbeats 8000000 in
theorem l10body_any (w : World) (A : Option Addr) (c : Nat) (l : List It) (hl : Cs w.heap.size w A (tcells l)) (hlen : l.length ≤ 1000000) :
    Calls Tryz.prog 18 #[.slice A l.length c] w (BodyTo l w) := by
  go_enter Tryz.func18, Tryz.ntmps18
  go_wp2_with fail
  refine Calls.mono (l10ins_e 22 2 2 0 (-16) _) ?_
  rintro e w1 ⟨rfl, hB1⟩
  go_wp2_with fail
  refine Calls.mono (l10ins_e 21 0 2 1 0 _) ?_
  rintro e w2 ⟨rfl, hB2⟩
  have hB02 : Below w.heap.size w w2 := hB1.trans (hB2.mono hB1.size)
  have hr3 : Cs w.heap.size (w2.alloc (.cells (tcells mainHead).toArray 28)) A (tcells l) := hl.below (hB02.alloc hB02.size _)
  have ho3 : OwnT (w2.alloc (.cells (tcells mainHead).toArray 28)) w.heap.size (.slice (some ⟨w2.heap.size, 0, none⟩) 3 3) mainHead := World.ownsRow_lit w2 (tcells mainHead).toArray 3 hB02.size (by decide) rfl
  rw [tcells_head] at hr3 ho3
  have hs3 : w.heap.size ≤ w2.heap.size + 1 := by have := hB02.size; omega
  go_wp2_with (at_builtin; refine wpList_app _ rfl _ _ 24 rfl Tryz_elTs w.heap.size _ 3 (tcells mainHead) (by exact rfl) ho3 w.heap.size A l.length c (tcells l) (by exact rfl) (tcells_length l) hr3 (tcells_one l) (by simp only [maxLen]; omega) (by omega) (by rw [World.size_alloc]; omega) ?_)
  intro v4 w4 h4 hg4 hnil hat
  have hB04 : Below w.heap.size w w4 := (hB02.alloc hB02.size _).grown hg4 (by rw [World.size_alloc]; omega) (fun k hk => (ho3.lt k hk).1)
  have ho4 : OwnT w4 w.heap.size v4 (mainHead ++ l) := by
    unfold OwnT
    rw [tcells_append, List.length_append]
    exact h4
  obtain ⟨A4, c4, hv4, -⟩ := ho4.form
  rw [show (mainHead ++ l).length = l.length + 3 by rw [List.length_append]; simp only [mainHead, List.length_cons, List.length_nil]; omega] at hv4
  subst hv4
  clear h4 hg4 hnil hat ho3 hr3
  have HO := Lib.hid ho4
  go_wp2_with fail
  refine Calls.mono (l10ins_e 14 1 2 0 0 _) ?_
  rintro e w5 ⟨rfl, hB5⟩
  go_wp2_with fail
  refine Calls.mono (l10ins_e 22 2 2 0 16 _) ?_
  rintro e w6 ⟨rfl, hB6⟩
  go_wp2_with fail
  refine Calls.mono (l10ins_e 4 0 1 0 0 _) ?_
  rintro e w7 ⟨rfl, hB7⟩
  have hB47 : Below w4.heap.size w4 w7 := (hB5.trans (hB6.mono hB5.size)).trans (hB7.mono (Nat.le_trans hB5.size hB6.size))
  have hB07 : Below w.heap.size w w7 := hB04.trans (hB47.mono hB04.size)
  have ho8 : w7.alloc (.cells (tcells mainTail).toArray 28) |>.ownsRow w.heap.size 28 7 (.slice A4 (l.length + 3) c4) (l.length + 3) (tcells (mainHead ++ l)) := by
    have h1 : OwnT w4 w.heap.size (.slice A4 (l.length + 3) c4) (mainHead ++ l) := HO.out
    have h2 := h1.below (hB47.alloc hB47.size (.cells (tcells mainTail).toArray 28))
    unfold OwnT at h2
    rw [show (mainHead ++ l).length = l.length + 3 by rw [List.length_append]; simp only [mainHead, List.length_cons, List.length_nil]; omega] at h2
    exact h2
  have hr8 := it_lit mainTail w7 28
  rw [tcells_tail] at ho8 hr8
  have hs7 := hB07.size
  go_wp2_with (at_builtin; refine wpList_app _ rfl _ _ 24 rfl Tryz_elTs w.heap.size (.slice A4 (l.length + 3) c4) (l.length + 3) (tcells (mainHead ++ l)) (by exact rfl) ho8 _ (some ⟨w7.heap.size, 0, none⟩) 3 3 (tcells mainTail) (by exact rfl) (by exact rfl) hr8 (tcells_one mainTail) (by simp only [maxLen]; omega) (by omega) (by rw [World.size_alloc]; omega) ?_)
  intro v9 w9 h9 hg9 hnil hat
  have hB09 : Below w.heap.size w w9 := (hB07.alloc hB07.size _).grown hg9 (by rw [World.size_alloc]; omega) (fun k hk => (ho8.lt k hk).1)
  have ho9 : OwnT w9 w.heap.size v9 (bodyL l) := by
    unfold OwnT bodyL
    rw [tcells_append, show (mainHead ++ l ++ mainTail).length = l.length + 3 + 3 by simp [mainHead, mainTail]]
    exact h9
  obtain ⟨A9, c9, hv9, -⟩ := ho9.form
  have HL := Lib.hid (show (bodyL l).length = l.length + 6 by simp [bodyL, mainHead, mainTail])
  rw [HL.out] at hv9
  subst hv9
  have HE := Lib.hid (And.intro ho9 hB09)
  clear ho9 hB09 h9 hg9 hnil hat
  go_wp2_with fail
  go_ret
  refine ⟨A9, c9, ?_, ?_, HE.out.2⟩
  · rw [HL.out]; rfl
  · rw [HL.out]; exact HE.out.1
end Go.Proofs
