/- elf.says: what the bytes of a file say. -/
import Derived.Test.YtkgnodlhdilmoaaSgs
import Derived.Test.YtkgnodlhdilmoaaObjs
namespace Go.Pat
open Go Go.RowKit

def cntK (l : List UInt8) (k : Nat) : Nat := num l (64 + 56 * k + 32) 8
def sayS (l : List UInt8) (k : Nat) (d : List UInt8) : Sgd := ⟨num l (64 + 56 * k + 16) 8, (num l (64 + 56 * k + 4) 4 : Nat), d, num l (64 + 56 * k + 40) 8⟩
inductive Said where
  | none
  | some (ss : List Sgd) (e : Nat)
def saysT (l : List UInt8) (n : Nat) : Nat → Said
  | 0 => .some [] (64 + 56 * n)
  | k + 1 => match saysT l n k with
    | .none => .none
    | .some ss e => if cntK l k = 0 then .some (ss ++ [sayS l k []]) e else if l.length < roundN e ∨ l.length - roundN e < cntK l k then .none
      else .some (ss ++ [sayS l k ((l.drop (roundN e)).take (cntK l k))]) (roundN e + cntK l k)
theorem saysT_none {l : List UInt8} {n k m : Nat} (h : saysT l n k = .none) (hk : k ≤ m) : saysT l n m = .none := by
  induction m with
  | zero => obtain rfl : k = 0 := by omega
            exact h
  | succ m ih =>
    by_cases e : k = m + 1
    · rw [← e]; exact h
    · rw [saysT, ih (by omega)]
theorem saysT_zero {l : List UInt8} {n k x : Nat} {ss : List Sgd} (h : saysT l n k = .some ss x) (hc : cntK l k = 0) : saysT l n (k + 1) = .some (ss ++ [sayS l k []]) x := by
  rw [saysT, h]; simp only [if_pos hc]
theorem saysT_no {l : List UInt8} {n k x : Nat} {ss : List Sgd} (h : saysT l n k = .some ss x) (hc : cntK l k ≠ 0) (hb : l.length < roundN x ∨ l.length - roundN x < cntK l k) : saysT l n (k + 1) = .none := by
  rw [saysT, h]; simp only [if_neg hc, if_pos hb]
theorem saysT_yes {l : List UInt8} {n k x : Nat} {ss : List Sgd} (h : saysT l n k = .some ss x) (hc : cntK l k ≠ 0) (hb : ¬ (l.length < roundN x ∨ l.length - roundN x < cntK l k)) :
    saysT l n (k + 1) = .some (ss ++ [sayS l k ((l.drop (roundN x)).take (cntK l k))]) (roundN x + cntK l k) := by
  rw [saysT, h]; simp only [if_neg hc, if_neg hb]
end Go.Pat
namespace Go.Proofs
open Go Go.RowKit Go.Pat

theorem eget_int (w : World) (A : Option Addr) (cap len at_ n B : Nat) (z : Int) (hz : z = (at_ : Int)) (l : List UInt8) (hr : Bs B w A l) (hl : l.length = len) (hat : at_ + n ≤ len) (hlen : len ≤ 4611686018427387904) (hn : n ≤ 8) :
    Calls Try.prog 60 #[.slice A len cap, .int .i64 z, .int .i64 n] w fun e w' => e = .returned (.int .u64 (num l at_ n : Nat)) ∧ w = w' := by
  subst hz; exact eget_any w A cap len at_ n B l hr hl hat hlen hn


theorem OwnS.base {w : World} {base b2 : Nat} {v : Value} {ss : List Sg} (h : OwnS w base v ss) (hb : b2 ≤ base) : OwnS w b2 v ss := by
  refine ⟨h.1, ?_⟩
  rcases h.2 with h0 | ⟨g, cap, cur, hv, hg, r⟩
  · exact .inl h0
  · exact .inr ⟨g, cap, cur, hv, by omega, r⟩
theorem set2_0 {w : World} {b : Nat} {x y : Value} {t : TypeId} (h : w.heap[b]? = some (.cells #[x, y] t (0, 0))) (u u' : Value) : ((w.setCell ⟨b, 0, none⟩ u).setCell ⟨b, 1, none⟩ u').cell? ⟨b, 0, none⟩ = some u := by
  rw [obj_cell (obj_set (obj_set h 0 u) 1 u') 0]; rfl
theorem set2_1 {w : World} {b : Nat} {x y : Value} {t : TypeId} (h : w.heap[b]? = some (.cells #[x, y] t (0, 0))) (u u' : Value) : ((w.setCell ⟨b, 0, none⟩ u).setCell ⟨b, 1, none⟩ u').cell? ⟨b, 1, none⟩ = some u' := by
  rw [obj_cell (obj_set (obj_set h 0 u) 1 u') 1]; rfl
/-- what says tells. -/
def SaysP (w : World) (l : List UInt8) (n : Nat) (e : Ending) (w' : World) : Prop :=
  (saysT l n n = .none ∧ (∃ (a : Int) (A : Option Addr) (m c : Nat), e = .returned (.tuple #[.agg #[.int .u64 a, .slice A m c], .bool false])) ∧ Below w.heap.size w w') ∨
  (∃ ss ed v gs, saysT l n n = .some ss ed ∧ e = .returned (.tuple #[.agg #[.int .u64 (num l 24 8 : Nat), v], .bool true]) ∧ OwnSs w' w.heap.size v gs ∧ gs.map Sg.d = ss ∧ gs.length = n ∧ Below w.heap.size w w')

set_option maxRecDepth 20000 in
set_option maxHeartbeats 8000000 in
theorem esays_wide (w : World) (A : Option Addr) (cap len n : Nat) (l : List UInt8) (hr : Bs w.heap.size w A l) (hl : l.length = len) (hlen : len ≤ 281474976710656) (hsml : ∀ k, k < n → cntK l k ≤ len → cntK l k ≤ 140737488351232) (hcap : len ≤ cap) (hn : 64 + 56 * n ≤ len) (hn8 : n ≤ 8) :
    Calls Try.prog 61 #[.slice A len cap, .int .i64 n] w (SaysP w l n) := by
  go_enter Try.func61, Try.ntmps61
  have hb1 : Below w.heap.size w (w.alloc (.cells #[.int .u64 0, .slice none 0 0] 38)) := (Below.refl _ _).alloc (Nat.le_refl _) _
  go_wp2_with fail
  refine Calls.mono (eget_any _ A cap len 24 8 _ l (hr.below hb1) hl (by omega) (by omega) (by decide)) ?_
  rintro e w' ⟨rfl, rfl⟩
  have hen := Nat.lt_of_lt_of_le (num_lt l 24 8) (show 256 ^ 8 ≤ 18446744073709551616 by decide)
  go_wp2_with fail
  go_loopw [7, 21] (fun ed i wr => ∃ (k : Nat) (gs : List Sg) (v : Value) (x : Nat), k ≤ n ∧ i = .int .i64 k ∧ ed = .int .u64 (x : Nat) ∧ saysT l n k = .some (gs.map Sg.d) x ∧ gs.length = k ∧ (64 ≤ x ∧ x ≤ len) ∧ OwnSs wr (w.heap.size + 2) v gs ∧
    wr.heap[w.heap.size]? = some (.cells #[.int .u64 0, .slice none 0 0] 38 (0, 0)) ∧ wr.heap[w.heap.size + 1]? = some (.cells #[.int .u64 (num l 24 8 : Nat), v] 38 (0, 0)) ∧ Below w.heap.size w wr) (fun _ i _ => n - (intOf i).toNat)
  case atStart =>
    refine ⟨0, [], .slice none 0 0, 64 + 56 * n, by omega, rfl, ?_, rfl, rfl, ⟨by omega, by omega⟩, .nil _ _, ?_, ?_, (hb1.alloc hb1.size _)⟩
    · exact congrArg (Value.int .u64) (by omega)
    · rw [Below.heap_alloc _ _ _ (by simp)]; exact heap_alloc_new w _
    · have := heap_alloc_new (w.alloc (.cells #[.int .u64 0, .slice none 0 0] 38)) (.cells #[.int .u64 (num l 24 8 : Nat), .slice none 0 0] 38)
      rwa [World.size_alloc] at this
  case round =>
    obtain ⟨k, gs, v, x, hk, rfl, rfl, hT, hgl, hxl, hown, hr0, hr1, hB⟩ := hrel
    have hrw := hr.below hB
    have hsz : w.heap.size + 2 ≤ wr.heap.size := by have := lt_of_block hr1; omega
    by_cases hlt : k < n
    · have hd3 : decide ((k : Int) < (n : Int)) = true := by simp; omega
      have z1 := Lib.hid (show (64 + 56 * (k : Int) + 16) = ((64 + 56 * k + 16 : Nat) : Int) by omega)
      have z2 := Lib.hid (show (64 + 56 * (k : Int) + 4) = ((64 + 56 * k + 4 : Nat) : Int) by omega)
      have z3 := Lib.hid (show (64 + 56 * (k : Int) + 32) = ((64 + 56 * k + 32 : Nat) : Int) by omega)
      have z4 := Lib.hid (show (64 + 56 * (k : Int) + 40) = ((64 + 56 * k + 40 : Nat) : Int) by omega)
      have b1 := Nat.lt_of_lt_of_le (num_lt l (64 + 56 * k + 16) 8) (show 256 ^ 8 ≤ 18446744073709551616 by decide)
      have b2 := Nat.lt_of_lt_of_le (num_lt l (64 + 56 * k + 4) 4) (show 256 ^ 4 ≤ 4294967296 by decide)
      have b3 : cntK l k < 18446744073709551616 := Nat.lt_of_lt_of_le (num_lt l (64 + 56 * k + 32) 8) (show 256 ^ 8 ≤ 18446744073709551616 by decide)
      have b4 := Nat.lt_of_lt_of_le (num_lt l (64 + 56 * k + 40) 8) (show 256 ^ 8 ≤ 18446744073709551616 by decide)
      obtain ⟨a, ha⟩ : ∃ a, a = num l (64 + 56 * k + 16) 8 := ⟨_, rfl⟩
      obtain ⟨p, hp⟩ : ∃ p, p = num l (64 + 56 * k + 4) 4 := ⟨_, rfl⟩
      obtain ⟨c, hc⟩ : ∃ c, c = cntK l k := ⟨_, rfl⟩
      obtain ⟨q, hq⟩ : ∃ q, q = num l (64 + 56 * k + 40) 8 := ⟨_, rfl⟩
      rw [← ha] at b1
      rw [← hp] at b2
      rw [← hc] at b3
      rw [← hq] at b4
      have HV := Lib.hid (And.intro ha (And.intro hp (And.intro hc hq)))
      have HT := Lib.hid hT
      clear ha hp hc hq hT
      go_wp2_with fail
      refine Calls.mono (eget_int _ A cap len (64 + 56 * k + 16) 8 _ _ z1.out l hrw hl (by omega) (by omega) (by decide)) ?_
      rintro e w' ⟨rfl, rfl⟩
      rw [← HV.out.1]
      go_wp2_with fail
      refine Calls.mono (eget_int _ A cap len (64 + 56 * k + 4) 4 _ _ z2.out l hrw hl (by omega) (by omega) (by decide)) ?_
      rintro e w' ⟨rfl, rfl⟩
      rw [← HV.out.2.1]
      go_wp2_with fail
      have hB3 : Below wr.heap.size wr (wr.alloc (.cells #[.int .u64 (a : Int), .int .i64 (p : Int), .slice none 0 0, .int .u64 0] 73)) := (Below.refl _ _).alloc (Nat.le_refl _) _
      refine Calls.mono (eget_int _ A cap len (64 + 56 * k + 32) 8 _ _ z3.out l (hrw.below (hB3.mono hB.size)) hl (by omega) (by omega) (by decide)) ?_
      rintro e w' ⟨rfl, rfl⟩
      rw [show num l (64 + 56 * k + 32) 8 = c from HV.out.2.2.1.symm]
      by_cases hc0 : c = 0
      · have hdc : decide (0 < c) = false := by rw [hc0]; rfl
        have HT2 := Lib.hid (saysT_zero HT.out (HV.out.2.2.1.symm.trans hc0))
        clear hc0
        go_wp2_with fail
        refine Calls.mono (eget_int _ A cap len (64 + 56 * k + 40) 8 _ _ z4.out l (hrw.below (hB3.mono hB.size)) hl (by omega) (by omega) (by decide)) ?_
        rintro e w' ⟨rfl, rfl⟩
        rw [← HV.out.2.2.2]
        have m1 : (wr.alloc (.cells #[.int .u64 (a : Int), .int .i64 (p : Int), .slice none 0 0, .int .u64 (q : Int)] 73)).heap[w.heap.size + 1]? = some (.cells #[.int .u64 (num l 24 8 : Nat), v] 38 (0, 0)) := obj_alloc hr1
        have j1 : (wr.alloc (.cells #[.int .u64 (a : Int), .int .i64 (p : Int), .slice none 0 0, .int .u64 (q : Int)] 73)).cell? ⟨w.heap.size + 1, 1, none⟩ = some v := obj_cell m1 1
        have hown2 : OwnSs ((wr.alloc (.cells #[.int .u64 (a : Int), .int .i64 (p : Int), .slice none 0 0, .int .u64 (q : Int)] 73)).alloc (.cells #[.int .u64 (a : Int), .int .i64 (p : Int), .slice none 0 0, .int .u64 (q : Int)] 73)) (w.heap.size + 2) v gs := (hown.below ((Below.refl _ _).alloc (Nat.le_refl _) _)).below ((Below.refl _ _).alloc (Nat.le_refl _) _)
        have hnb : v.ownBlock ≠ some (wr.heap.size + 1) := fun e => by have := (hown.row.lt _ e).2; omega
        have hlit : ((wr.alloc (.cells #[.int .u64 (a : Int), .int .i64 (p : Int), .slice none 0 0, .int .u64 (q : Int)] 73)).alloc (.cells #[.int .u64 (a : Int), .int .i64 (p : Int), .slice none 0 0, .int .u64 (q : Int)] 73)).heap[wr.heap.size + 1]? = some (.cells #[.int .u64 (a : Int), .int .i64 (p : Int), .slice none 0 0, .int .u64 (q : Int)] 73) := by have := heap_alloc_new (wr.alloc (.cells #[.int .u64 (a : Int), .int .i64 (p : Int), .slice none 0 0, .int .u64 (q : Int)] 73)) (.cells #[.int .u64 (a : Int), .int .i64 (p : Int), .slice none 0 0, .int .u64 (q : Int)] 73); rwa [World.size_alloc] at this
        have hnil := OwnB.nil ((wr.alloc (.cells #[.int .u64 (a : Int), .int .i64 (p : Int), .slice none 0 0, .int .u64 (q : Int)] 73)).alloc (.cells #[.int .u64 (a : Int), .int .i64 (p : Int), .slice none 0 0, .int .u64 (q : Int)] 73)) (w.heap.size + 2)
        go_wp2_with (at_builtin; refine wpList_appS _ rfl _ _ rfl (w.heap.size + 2) v gs rfl hown2 (wr.heap.size + 1) 1 ⟨a, p, none, 0, [], q⟩ rfl hlit hnb hnil ?u1 ?u2 ?u3 ?u4)
        case u2 => omega
        case u3 => simp only [World.size_alloc]; omega
        case u4 =>
          intro v' w1 hown' hB' hkeep
          have hI := (hkeep (w.heap.size + 1) (by omega) (fun e => by have := (hown.row.lt _ e).1; omega)).trans (obj_alloc m1)
          have hR := (hkeep w.heap.size (by omega) (fun e => by have := (hown.row.lt _ e).1; omega)).trans (obj_alloc (obj_alloc hr0))
          have j2 : w1.cell? ⟨w.heap.size + 1, 1, none⟩ = some v := obj_cell hI 1
          have j3 := obj_frozen hI 1
          have hB1 : Below w.heap.size w w1 := ((hB.alloc hB.size _).alloc (by rw [World.size_alloc]; exact Nat.le_succ_of_le hB.size) _).trans ((hB' _ (Below.refl _ _)).mono (by omega))
          clear hown2 hlit hnil hkeep hB'
          obtain ⟨A', k', rfl, _⟩ := hown'.row.form
          rw [show (gs ++ [(⟨a, p, none, 0, [], q⟩ : Sg)]).length = k + 1 by simp [hgl]] at hown' ⊢
          go_wp2
          go_roundw
          case rel =>
            refine ⟨k + 1, gs ++ [⟨a, p, none, 0, [], q⟩], .slice A' (k + 1 : Nat) k', x, by omega, by go_num, rfl, ?_, by simp [hgl], hxl, ?_, ?_, ?_, ?_⟩
            · rw [HT2.out, List.map_append]
              simp only [sayS, ← HV.out.1, ← HV.out.2.1, ← HV.out.2.2.2]
              rfl
            · exact hown'.put hI (by decide) (by decide) ((KeptBut.refl (fun b => b = w.heap.size + 1) w1).setCell ⟨w.heap.size + 1, 1, none⟩ rfl _)
            · rw [Below.heap_setCell _ _ _ _ (by simp)]; exact hR
            · exact obj_set hI 1 _
            · exact hB1.setCell (by simp) _
          case measure => simp [intOf]; omega
      · have hdc : decide (0 < c) = true := decide_eq_true (by omega)
        obtain ⟨hx64, hxlen⟩ := hxl
        have hrx : x ≤ roundN x ∧ roundN x ≤ len + 4095 := by unfold roundN; omega
        obtain ⟨A', k', rfl, _⟩ := hown.row.form
        have m0 : (wr.alloc (.cells #[.int .u64 (a : Int), .int .i64 (p : Int), .slice none 0 0, .int .u64 0] 73)).heap[w.heap.size]? = some (.cells #[.int .u64 0, .slice none 0 0] 38 (0, 0)) := obj_alloc hr0
        have m1 : (wr.alloc (.cells #[.int .u64 (a : Int), .int .i64 (p : Int), .slice none 0 0, .int .u64 0] 73)).heap[w.heap.size + 1]? = some (.cells #[.int .u64 (num l 24 8 : Nat), .slice A' gs.length k'] 38 (0, 0)) := obj_alloc hr1
        by_cases hbad : len < roundN x ∨ len - roundN x < c
        · have HF := Lib.hid (saysT_none (saysT_no HT.out (fun e => hc0 (HV.out.2.2.1.trans e)) (by rw [hl, ← HV.out.2.2.1]; exact hbad)) (show k + 1 ≤ n by omega))
          have j0 := obj_cell m1 0
          have j1 := obj_cell m1 1
          have j2 := obj_cell m0 0
          have j3 := obj_cell m0 1
          have j4 := obj_frozen m0 0
          have j5 := obj_frozen m0 1
          have hfin : ∀ u u' : Value, Below w.heap.size w (((wr.alloc (.cells #[.int .u64 (a : Int), .int .i64 (p : Int), .slice none 0 0, .int .u64 0] 73)).setCell ⟨w.heap.size, 0, none⟩ u).setCell ⟨w.heap.size, 1, none⟩ u') := fun u u' => ((hB.alloc hB.size _).setCell (p := ⟨w.heap.size, 0, none⟩) (Nat.le_refl _) u).setCell (p := ⟨w.heap.size, 1, none⟩) (Nat.le_refl _) u'
          by_cases hb1' : len < roundN x
          · have hd5 : decide (len < roundN x) = true := decide_eq_true hb1'
            go_wp2_with fail
            refine Calls.mono (eup_any x (by omega) _) ?_
            rintro e w' ⟨rfl, rfl⟩
            clear hbad hb1' hc0
            go_wp2
            refine bodyPost_ret (v := .tuple #[.agg #[.int .u64 (num l 24 8 : Nat), .slice A' k k'], .bool false]) (by simp [results, Try.results61, go_sem, set2_0 m0, set2_1 m0]) rfl ?_
            exact .inl ⟨HF.out, ⟨_, _, _, _, rfl⟩, hfin _ _⟩
          · obtain ⟨r, hr2⟩ : ∃ r, roundN x + r = len := ⟨len - roundN x, by omega⟩
            have hd5 : decide (len < roundN x) = false := decide_eq_false hb1'
            have hd6 : decide (r < c) = true := decide_eq_true (by omega)
            have ew : IntKind.u64.wrap ((len : Int) - ((roundN x : Nat) : Int)) = (r : Int) := by rw [IntKind.wrap_u64]; omega
            go_wp2_with fail
            refine Calls.mono (eup_any x (by omega) _) ?_
            rintro e w' ⟨rfl, rfl⟩
            clear hbad hb1' hc0
            go_wp2
            refine bodyPost_ret (v := .tuple #[.agg #[.int .u64 (num l 24 8 : Nat), .slice A' k k'], .bool false]) (by simp [results, Try.results61, go_sem, set2_0 m0, set2_1 m0]) rfl ?_
            exact .inl ⟨HF.out, ⟨_, _, _, _, rfl⟩, hfin _ _⟩
        · obtain ⟨r, hr2⟩ : ∃ r, roundN x + r = len := ⟨len - roundN x, by omega⟩
          have hcr : c ≤ r := by omega
          rw [hgl] at hown hr1
          have hd5 : decide (len < roundN x) = false := decide_eq_false (by omega)
          have hd6 : decide (r < c) = false := decide_eq_false (by omega)
          have ew : IntKind.u64.wrap ((len : Int) - ((roundN x : Nat) : Int)) = (r : Int) := by rw [IntKind.wrap_u64]; omega
          have HY := Lib.hid (saysT_yes HT.out (fun e => hc0 (HV.out.2.2.1.trans e)) (by rw [hl, ← HV.out.2.2.1]; exact hbad))
          obtain ⟨f, hf⟩ : ∃ f, f = roundN x := ⟨_, rfl⟩
          rw [← hf] at hr2 hrx hd5 ew
          have HF := Lib.hid hf
          have hcp : 0 < c := by omega
          have hcS : c ≤ 140737488351232 := by rw [HV.out.2.2.1]; exact hsml k hlt (by have := HV.out.2.2.1; omega)
          clear hbad hc0
          have hfit : f + c ≤ len := by omega
          have hfl : (f : Int) ≤ ((f : Int) + (c : Int)) := by omega
          have hfc : ((f : Int) + (c : Int)) ≤ (cap : Int) := by omega
          have hne : ¬ f = cap := by omega
          have hne2 : ¬ cap = f := by omega
          obtain ⟨b, o, rfl, hbw⟩ := hrw.form (by intro h; have := congrArg List.length h; rw [bcells_length] at this; simp at this; rw [this] at hl; simp at hl; omega)
          go_wp2_with fail
          refine Calls.mono (eup_any x (by omega) _) ?_
          rintro e w' ⟨rfl, rfl⟩
          rw [← HF.out]
          clear hf
          go_wp2_with fail
          have hl2 : ((l.drop f).take c).length = c := by rw [List.length_take, List.length_drop, hl]; omega
          have hbs2 : Bs (wr.alloc (.cells #[.int .u64 (a : Int), .int .i64 (p : Int), .slice none 0 0, .int .u64 0] 73)).heap.size (wr.alloc (.cells #[.int .u64 (a : Int), .int .i64 (p : Int), .slice none 0 0, .int .u64 0] 73)) (some ⟨b, o + f, none⟩) ((l.drop f).take c) := by
            have h1 := ((hrw.below ((Below.refl _ _).alloc hB.size (.cells #[.int .u64 (a : Int), .int .i64 (p : Int), .slice none 0 0, .int .u64 0] 73))).drop f).take c
            have h2 : (some (⟨b, o, none⟩ : Addr)).map (·.add f) = some ⟨b, o + f, none⟩ := by
              simp only [Option.map_some, Addr.add]
              split
              · rename_i h0; rw [h0, Nat.add_zero]
              · rfl
            rw [h2] at h1
            have h3 : bcells ((l.drop f).take c) = ((bcells l).drop f).take c := by simp [bcells, List.map_drop, List.map_take]
            show Cs _ _ _ (bcells _)
            rw [h3]
            exact h1.more (by rw [World.size_alloc]; have := hB.size; omega)
          refine Calls.mono (bclone_n _ ⟨b, o + f, none⟩ c (cap - f) ((l.drop f).take c) hl2 hbs2 (by omega)) ?_
          rintro e w2 ⟨v2, rfl, hv2, -, hb2⟩
          obtain ⟨A2, c2, rfl, -⟩ := hv2.form
          rw [hl2] at hv2 ⊢
          have hsb : w2.heap[wr.heap.size]? = some (.cells #[.int .u64 (a : Int), .int .i64 (p : Int), .slice none 0 0, .int .u64 0] 73 (0, 0)) := (hb2.block _ (by rw [World.size_alloc]; omega)).trans (heap_alloc_new wr _)
          have hw2 : Below wr.heap.size wr w2 := ((Below.refl _ _).alloc (Nat.le_refl _) _).trans (hb2.mono (by rw [World.size_alloc]; omega))
          have s0 := obj_cell hsb 0
          have s1 := obj_cell hsb 1
          have s2 := obj_cell hsb 2
          have s3 := obj_cell hsb 3
          have f2 := obj_frozen hsb 2
          have f3 := obj_frozen hsb 3
          have hw3 : Below wr.heap.size wr (w2.setCell ⟨wr.heap.size, 2, none⟩ (.slice A2 c c2)) := hw2.setCell (p := ⟨wr.heap.size, 2, none⟩) (Nat.le_refl _) _
          have hw4 : Below wr.heap.size wr ((w2.setCell ⟨wr.heap.size, 2, none⟩ (.slice A2 c c2)).setCell ⟨wr.heap.size, 3, none⟩ (.int .u64 (q : Int))) := hw3.setCell (p := ⟨wr.heap.size, 3, none⟩) (Nat.le_refl _) _
          clear hbs2 hl2
          go_wp2_with fail
          refine Calls.mono (eget_int _ _ cap len (64 + 56 * k + 40) 8 _ _ z4.out l (hrw.below (hw3.mono hB.size)) hl (by omega) (by omega) (by decide)) ?_
          rintro e w' ⟨rfl, rfl⟩
          rw [← HV.out.2.2.2]
          have hs4 := obj_set (obj_set hsb 2 (.slice A2 c c2)) 3 (.int .u64 (q : Int))
          have q1 : w2.heap[w.heap.size + 1]? = some (.cells #[.int .u64 (num l 24 8 : Nat), .slice A' k k'] 38 (0, 0)) := (hw2.block _ (lt_of_block hr1)).trans hr1
          have q2 : ((w2.setCell ⟨wr.heap.size, 2, none⟩ (.slice A2 c c2)).setCell ⟨wr.heap.size, 3, none⟩ (.int .u64 (q : Int))).heap[w.heap.size + 1]? = some (.cells #[.int .u64 (num l 24 8 : Nat), .slice A' k k'] 38 (0, 0)) := (hw4.block _ (lt_of_block hr1)).trans hr1
          have q3 : ((w2.setCell ⟨wr.heap.size, 2, none⟩ (.slice A2 c c2)).setCell ⟨wr.heap.size, 3, none⟩ (.int .u64 (q : Int))).heap[w.heap.size]? = some (.cells #[.int .u64 0, .slice none 0 0] 38 (0, 0)) := (hw4.block _ (lt_of_block hr0)).trans hr0
          have j1 : w2.cell? ⟨w.heap.size + 1, 1, none⟩ = some (.slice A' k k') := obj_cell q1 1
          have e4 : ((w2.setCell ⟨wr.heap.size, 2, none⟩ (.slice A2 c c2)).setCell ⟨wr.heap.size, 3, none⟩ (.int .u64 (q : Int))).heap.size = w2.heap.size := by simp
          have hown2 : OwnSs (((w2.setCell ⟨wr.heap.size, 2, none⟩ (.slice A2 c c2)).setCell ⟨wr.heap.size, 3, none⟩ (.int .u64 (q : Int))).alloc (.cells #[.int .u64 (a : Int), .int .i64 (p : Int), .slice A2 c c2, .int .u64 (q : Int)] 73)) (w.heap.size + 2) (.slice A' k k') gs := (hown.below hw4).below ((Below.refl _ _).alloc (Nat.le_refl _) _)
          have hnb : (Value.slice A' k k').ownBlock ≠ some w2.heap.size := fun e => by have h1 := (hown.row.lt _ e).2; have h2 := hw2.size; omega
          have hlit : (((w2.setCell ⟨wr.heap.size, 2, none⟩ (.slice A2 c c2)).setCell ⟨wr.heap.size, 3, none⟩ (.int .u64 (q : Int))).alloc (.cells #[.int .u64 (a : Int), .int .i64 (p : Int), .slice A2 c c2, .int .u64 (q : Int)] 73)).heap[w2.heap.size]? = some (.cells #[.int .u64 (a : Int), .int .i64 (p : Int), .slice A2 c c2, .int .u64 (q : Int)] 73) := by rw [← e4]; exact heap_alloc_new _ _
          have hv4 : OwnB (((w2.setCell ⟨wr.heap.size, 2, none⟩ (.slice A2 c c2)).setCell ⟨wr.heap.size, 3, none⟩ (.int .u64 (q : Int))).alloc (.cells #[.int .u64 (a : Int), .int .i64 (p : Int), .slice A2 c c2, .int .u64 (q : Int)] 73)) (w.heap.size + 2) (.slice A2 ((l.drop f).take c).length c2) ((l.drop f).take c) := by
            rw [show ((l.drop f).take c).length = c by rw [List.length_take, List.length_drop, hl]; omega]
            refine (OwnB.keep (w' := ((w2.setCell ⟨wr.heap.size, 2, none⟩ (.slice A2 c c2)).setCell ⟨wr.heap.size, 3, none⟩ (.int .u64 (q : Int)))) (hv2.base (by rw [World.size_alloc]; omega)) fun g hg => ?_).alloc _
            obtain ⟨_, cur, hcu⟩ := hv2.block hg
            have hgn : g ≠ wr.heap.size := by rintro rfl; rw [hsb] at hcu; cases hcu
            rw [Below.heap_setCell _ _ _ _ hgn, Below.heap_setCell _ _ _ _ hgn]
          rw [show ((l.drop f).take c).length = c by rw [List.length_take, List.length_drop, hl]; omega] at hv4
          have hl3 : ((l.drop f).take c).length = c := by rw [List.length_take, List.length_drop, hl]; omega
          obtain ⟨d, hd⟩ : ∃ d, d = (l.drop f).take c := ⟨_, rfl⟩
          rw [← hd] at hv4 hl3
          have HD := Lib.hid hd
          clear hd hv2
          subst hl3
          go_wp2_with (at_builtin; refine wpList_appS _ rfl _ _ rfl (w.heap.size + 2) _ gs rfl hown2 w2.heap.size 1 ⟨a, p, A2, c2, d, q⟩ rfl hlit hnb hv4 ⟨b1, b4, ?v1⟩ ?v2 ?v3 ?v4)
          case v2 => omega
          case v3 => have h2 := hw2.size; simp only [World.size_alloc, World.size_setCell]; omega
          case v4 =>
            intro v' w1 hown' hB' hkeep
            have hlt0 : w.heap.size + 1 < wr.heap.size := by omega
            have hsw := hw2.size
            have hI := (hkeep (w.heap.size + 1) (by omega) (fun e => by have := (hown.row.lt _ e).1; omega)).trans (obj_alloc q2)
            have hR := (hkeep w.heap.size (by omega) (fun e => by have := (hown.row.lt _ e).1; omega)).trans (obj_alloc q3)
            have j2 : w1.cell? ⟨w.heap.size + 1, 1, none⟩ = some (.slice A' k k') := obj_cell hI 1
            have j3 := obj_frozen hI 1
            have hB1 : Below w.heap.size w w1 := ((hB.trans (hw4.mono hB.size)).alloc (by simp only [World.size_setCell]; have := hB.size; omega) _).trans ((hB' _ (Below.refl _ _)).mono (by omega))
            clear hown2 hlit hkeep hB' s0 s1 s2 s3 f2 f3 hw3 hw4 hs4 hsb q1 q2 q3
            obtain ⟨A3, k3, rfl, _⟩ := hown'.row.form
            rw [show (gs ++ [(⟨a, p, A2, c2, d, q⟩ : Sg)]).length = k + 1 by simp [hgl]] at hown' ⊢
            go_wp2
            go_roundw
            case rel =>
              refine ⟨k + 1, gs ++ [⟨a, p, A2, c2, d, q⟩], .slice A3 (k + 1 : Nat) k3, f + d.length, by omega, by go_num, ?_, ?_, by simp [hgl], ⟨by omega, by omega⟩, ?_, ?_, ?_, ?_⟩
              · exact congrArg (Value.int .u64) (by omega)
              · rw [HY.out, List.map_append]
                simp only [sayS, ← HV.out.1, ← HV.out.2.1, ← HV.out.2.2.2, ← HF.out, ← HV.out.2.2.1]
                rw [← HD.out]
                rfl
              · exact hown'.put hI (by decide) (by decide) ((KeptBut.refl (fun b => b = w.heap.size + 1) w1).setCell ⟨w.heap.size + 1, 1, none⟩ rfl _)
              · rw [Below.heap_setCell _ _ _ _ (by simp)]; exact hR
              · exact obj_set hI 1 _
              · exact hB1.setCell (by simp) _
            case measure => simp [intOf]; omega
    · have hd3 : decide ((k : Int) < (n : Int)) = false := by simp; omega
      obtain rfl : k = n := by omega
      obtain ⟨A', k', rfl, _⟩ := hown.row.form
      have j0 := obj_cell hr1 0
      have j1 := obj_cell hr1 1
      have j2 := obj_cell hr0 0
      have j3 := obj_cell hr0 1
      have j4 := obj_frozen hr0 0
      have j5 := obj_frozen hr0 1
      have hfin : ∀ u u' : Value, Below w.heap.size w ((wr.setCell ⟨w.heap.size, 0, none⟩ u).setCell ⟨w.heap.size, 1, none⟩ u') := fun u u' => (hB.setCell (p := ⟨w.heap.size, 0, none⟩) (Nat.le_refl _) u).setCell (p := ⟨w.heap.size, 1, none⟩) (Nat.le_refl _) u'
      have hown2 : ∀ u u' : Value, OwnSs ((wr.setCell ⟨w.heap.size, 0, none⟩ u).setCell ⟨w.heap.size, 1, none⟩ u') (w.heap.size + 2) (.slice A' gs.length k') gs := fun u u' =>
        hown.put hr0 (by decide) (by decide) (((KeptBut.refl (fun b => b = w.heap.size) wr).setCell ⟨w.heap.size, 0, none⟩ rfl u).setCell ⟨w.heap.size, 1, none⟩ rfl u')
      simp only [hgl] at hown2
      have HT := Lib.hid hT
      clear hT
      go_wp2
      refine bodyPost_ret (v := .tuple #[.agg #[.int .u64 (num l 24 8 : Nat), .slice A' k k'], .bool true]) (by simp [results, Try.results61, go_sem, set2_0 hr0, set2_1 hr0]) rfl ?_
      exact .inr ⟨_, x, _, gs, HT.out, rfl, ⟨(hown2 _ _).row.base (Nat.le_add_right _ 2), fun s hs => ((hown2 _ _).bytes s hs).base (Nat.le_add_right _ 2), hown.small⟩, rfl, hgl, hfin _ _⟩
theorem esays_any (w : World) (A : Option Addr) (cap len n : Nat) (l : List UInt8) (hr : Bs w.heap.size w A l) (hl : l.length = len) (hlen : len ≤ 140737488351232) (hcap : len ≤ cap) (hn : 64 + 56 * n ≤ len) (hn8 : n ≤ 8) :
    Calls Try.prog 61 #[.slice A len cap, .int .i64 n] w (SaysP w l n) :=
  esays_wide w A cap len n l hr hl (by omega) (fun _ _ h => Nat.le_trans h hlen) hcap hn hn8
end Go.Proofs
