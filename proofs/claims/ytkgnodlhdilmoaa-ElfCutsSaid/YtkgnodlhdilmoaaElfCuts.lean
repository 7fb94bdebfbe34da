/- patinalaw04.ElfCuts: the walk. -/
import Derived.Test.YtkgnodlhdilmoaaElfL
import Derived.Deep.DeepAppendWide
namespace Go.Pat
open Go Go.RowKit
theorem fileB_small {en : Nat} {ss : List Sgd} (hc : checkE en ss = 0) : (fileB en ss).length ≤ 134251008 := by
  have hK := check_ok hc
  have h8 := hK.few
  have h1 := endT_leM (ls := Go.Pat.dlens ss) 16781312 (by decide) (by intro m hm; obtain ⟨s, hs, rfl⟩ := List.mem_map.1 hm; have := (hK.seg s hs).1; omega) (by rw [dlens_length]; exact h8) ss.length
  have h2 : ss.length * 16781312 ≤ 8 * 16781312 := Nat.mul_le_mul_right _ h8
  rw [fileB_length]
  omega
theorem fileB_big {en : Nat} {ss : List Sgd} : 64 ≤ (fileB en ss).length := by
  have := endT_head (Go.Pat.dlens ss) ss.length
  rw [fileB_length]
  omega
theorem read_cut {l : List UInt8} {en : Nat} {ss : List Sgd} (h : readE l = .good en ss) (k : Nat) (hk : k < l.length) : ∃ a, readE (l.take k) = .bad a := by
  cases hr : readE (l.take k) with
  | bad a => exact ⟨a, rfl⟩
  | good en2 ss2 =>
    have := read_alike h hr (fun i h1 h2 => by rw [List.getElem?_take, if_pos (by rw [List.length_take] at h2; omega)])
    rw [List.length_take] at this
    omega
theorem read_more {l more : List UInt8} {en : Nat} {ss : List Sgd} (h : readE l = .good en ss) (hm : more.length ≠ 0) : ∃ a, readE (l ++ more) = .bad a := by
  cases hr : readE (l ++ more) with
  | bad a => exact ⟨a, rfl⟩
  | good en2 ss2 =>
    have := read_alike h hr (fun i h1 h2 => by rw [List.getElem?_append_left h1])
    rw [List.length_append] at this
    omega
theorem more_small {l more : List UInt8} {en : Nat} {ss : List Sgd} (h : readE l = .good en ss) (k : Nat) (hk : k < num (l ++ more) 56 2) : cntK (l ++ more) k ≤ l.length := by
  have g := read_good h
  have hd := g.head
  have hr := g.rows
  have hn : num (l ++ more) 56 2 = num l 56 2 := num_congr fun i hi => List.getElem?_append_left (by omega)
  rw [hn] at hk
  have hc : cntK (l ++ more) k = cntK l k := num_congr fun i hi => List.getElem?_append_left (by omega)
  have hf := plAt_fits (cnts l (num l 56 2)) k (cnts_get l _ k hk) hk
  have := g.len
  rw [hc]
  omega
end Go.Pat
namespace Go.Proofs
open Go Go.RowKit Go.Pat

theorem Bs.take {B : Nat} {w : World} {A : Option Addr} {l : List UInt8} (h : Bs B w A l) (c : Nat) : Bs B w A (l.take c) := by
  have h1 := Cs.take h c
  have h3 : bcells (l.take c) = (bcells l).take c := by simp [bcells, List.map_take]
  show Cs _ _ _ (bcells _)
  rw [h3]
  exact h1
theorem OwnB.form2 {w : World} {base : Nat} {v : Value} {l : List UInt8} (h : OwnB w base v l) : ∃ A c, v = .slice A l.length c ∧ Bs w.heap.size w A l ∧ l.length ≤ c := by
  rcases h.2 with ⟨rfl, h0⟩ | ⟨g, cap, cur, rfl, _, hh, hn, hm, hc, ht⟩
  · exact ⟨none, 0, by rw [h0], fun i hi => by rw [bcells_length] at hi; omega, by omega⟩
  · exact ⟨_, cap, rfl, Cs.of_own (c := cap) h, hn⟩
theorem run_app_none {w : World} {base : Nat} {v : Value} {n : Nat} {xs : List Value} (hown : w.ownsRow base 5 1 v n xs) (c : Nat) (ty : TypeId) :
    (Builtin.append_ #[35, 35] ty #[v, .slice none 0 c]).run Try.prog w = .ok v w := by
  obtain ⟨i, hi, hz0, hz1, hz2⟩ := info_parts Try_elU8.hi
  rcases hown.2 with ⟨rfl, rfl⟩ | ⟨g, cap, cur, rfl, _, _, hnc, _⟩
  · simp [Builtin.append_, run_underlying Try_elU8.ht, sizeOf, typeInfo, hi, Builtin.lenOf, Builtin.firstCells]
  · simp [Builtin.append_, run_underlying Try_elU8.ht, sizeOf, typeInfo, hi, Builtin.lenOf, Builtin.firstCells, hnc, storeCells]
theorem wpList_appB_wide {ops : Array Oper} {rest : List Oper} {o : Oper} {a : Act} {Q : Exit → Act → World → Prop} (w : World) (hgd : o.guard = none) (s x : Operand)
    (ho : o.op = .call { callee := .builtin .append, args := #[s, x], argTypes := #[35, 35] }) (base : Nat) (v : Value) (l : List UInt8) (hs : a.eval s = v) (hown : OwnB w base v l)
    (B : Nat) (A : Option Addr) (n c : Nat) (m : List UInt8) (hx : a.eval x = .slice A n c) (hn : m.length = n) (hr : Bs B w A m) (hlen : l.length + n ≤ 140737622602752) (hbase : base ≤ w.heap.size)
    (h : ∀ v' w', OwnB w' base v' (l ++ m) → (∀ W, Below base W w → Below base W w') → wpList Try.prog ops Q rest (a.put o.dst v') w') :
    wpList Try.prog ops Q (o :: rest) a w := by
  cases A with
  | some ad =>
    obtain ⟨i, hi, hz0, hz1, hz2⟩ := info_parts Try_elU8.hi
    refine wpList_append_own_wide w hgd s x 35 ho base 5 i (.int .u8 0) 1 1 Try_elU8.ht hi hz0 hz1 hz2 rfl (by decide) v l.length (bcells l) hs hown ad n c (bcells m) hx (by rw [bcells_length, hn, Nat.mul_one]) (hr.news rfl) (bcells_one m) (by simp only [maxLen]; omega) (by omega) hbase ?_
    intro v' w' h1 hg hnil
    refine h v' w' ?_ (fun W hW => own_below hown hW hg hbase)
    unfold OwnB
    rw [List.length_append, hn, bcells_append]
    exact h1
  | none =>
    have hm : m = [] := by
      cases m with
      | nil => rfl
      | cons a l => obtain ⟨_, _, e, _⟩ := hr 0 (by simp [bcells]); cases e
    subst hm
    obtain rfl : n = 0 := hn.symm
    refine wpList_plain hgd fun K hK => ?_
    have hrun := run_app_none hown c o.type
    unfold Oper.wp execOp
    simp only [ho, resolve, invoke, builtin, Sem.run_bind, Sem.run_pure, Result.andThen_ok, List.map_toArray, List.map_cons, List.map_nil, hs, hx, hrun]
    exact hK _ _ (h v w (by rw [List.append_nil]; exact hown) (fun W hW => hW))

theorem eRead_wint (w : World) (A : Option Addr) (cap len n : Nat) (l : List UInt8) (hr : Bs w.heap.size w A l) (hl : l.length = len) (hlen : len ≤ 281474976710656) (hsml : ∀ k, k < num l 56 2 → cntK l k ≤ len → cntK l k ≤ 140737488351232) (hcap : len ≤ cap) (hn : n = len) :
    Calls Try.prog 21 #[.slice A n cap] w (ReadP w l) := by
  subst hn
  exact eRead_wide w A cap _ l hr hl hlen hsml hcap

set_option maxRecDepth 20000 in
set_option maxHeartbeats 8000000 in
theorem ElfCuts_any (w : World) (A : Option Addr) (cap en n : Nat) (ss : List Sg) (hP : SgsAt w.heap.size w A ss) (hn : ss.length = n) (hen : en < 18446744073709551616)
    (cut : Int) (A2 : Option Addr) (cap2 len2 : Nat) (more : List UInt8) (hr2 : Bs w.heap.size w A2 more) (hl2 : more.length = len2) (hlen2 : len2 ≤ 140737488351232) :
    Calls Try.prog 7 #[.agg #[.int .u64 en, .slice A n cap], .int .i64 cut, .slice A2 len2 cap2] w fun e w' => e = .returned (.bool true) ∧ Below w.heap.size w w' := by
  have hb0 : Below w.heap.size w (w.alloc (.cells #[.int .u64 en, .slice A n cap] 38)) := (Below.refl _ _).alloc (Nat.le_refl _) _
  have HN := Lib.hid hn
  clear hn
  go_enter Try.func7, Try.ntmps7
  go_wp2_with fail
  refine Calls.mono (eWrite_int _ A cap en n ss _ rfl HN.out.symm ((hP.below hb0).mono hb0.size) hen) ?_
  intro e w1 hW
  rcases hW with ⟨hc, g, fl, rfl, hbuf, hg, hfl, hflm, hB1⟩ | ⟨hc, rfl, hB1⟩
  · have hBa := hb0.trans (hB1.mono hb0.size)
    have hsm : fl ≤ 134251008 := by rw [hfl]; exact fileB_small hc
    have h64 : 64 ≤ fl := by rw [hfl]; exact fileB_big
    have HR := Lib.hid (read_file hen hc)
    have HF := Lib.hid hfl
    clear hc hfl
    have hz : ((fl : Int) == 0) = false := beq_eq_false_iff_ne.2 (by omega)
    have hbs := hbuf.bs hbuf.lt
    by_cases hneg : cut < 0
    · have d1 : decide (cut < 0) = true := decide_eq_true hneg
      obtain ⟨k, hk⟩ : ∃ k, fl = k + 1 := ⟨fl - 1, by omega⟩
      have hkf : k < fl := by omega
      have ek : (fl : Int) - 1 = (k : Int) := by omega
      clear hk hneg
      obtain ⟨a1, hbad1⟩ := read_cut HR.out k (by rw [← HF.out]; exact hkf)
      have HB1 := Lib.hid hbad1
      clear hbad1
      have hk0 : (0 : Int) ≤ (k : Int) := by omega
      have hk1 : (k : Int) ≤ (fl : Int) := by omega
      have hk2 : k ≤ fl := by omega
      go_wp2_with fail
      refine Calls.mono (eRead_any w1 _ fl k ((fileB en (ss.map Sg.d)).take k) (Bs.take hbs k) (by rw [List.length_take, ← HF.out]; omega) (by omega) hk2) ?_
      intro e w2 hR
      rcases hR with ⟨a, hRa, rfl, hB2⟩ | ⟨_, _, _, hRa, -, -, -, -⟩
      · clear hRa
        have hBb : Below w.heap.size w (w2.alloc (.cells #[.int .u64 0, .slice none 0 0] 38)) := (hBa.trans (hB2.mono hBa.size)).alloc (Nat.le_trans hBa.size hB2.size) _
        have hs2 : w.heap.size ≤ w2.heap.size := Nat.le_trans hBa.size hB2.size
        have hbx : Buf (w2.alloc (.cells #[.int .u64 0, .slice none 0 0] 38)) g (fileB en (ss.map Sg.d)) := hbuf.below (hB2.alloc hB2.size _)
        obtain ⟨W3, hW3⟩ : ∃ W : World, W = w2.alloc (.cells #[.int .u64 0, .slice none 0 0] 38) := ⟨_, rfl⟩
        have hs3 : W3.heap.size = w2.heap.size + 1 := by rw [hW3, World.size_alloc]
        rw [← hW3] at hBb hbx
        have hown0 : OwnB (W3.alloc (.cells #[] 5)) W3.heap.size (.slice (some ⟨W3.heap.size, 0, none⟩) 0 0) [] := World.ownsRow_lit W3 #[] 0 (Nat.le_refl _) (by decide) rfl
        rw [hs3] at hown0
        have hB3 : Below (w2.heap.size + 1) W3 (W3.alloc (.cells #[] 5)) := (Below.refl _ _).alloc (by omega) _
        have hbx3 : Buf (W3.alloc (.cells #[] 5)) g (fileB en (ss.map Sg.d)) := hbx.below ((Below.refl _ _).alloc (Nat.le_refl _) _)
        have HW := Lib.hid hW3
        clear hW3
        go_wp2_with (at_builtin; rw [← HW.out]; refine wpList_appB _ rfl _ _ rfl (w2.heap.size + 1) _ [] rfl hown0 _ (some ⟨g, 0, none⟩) fl fl (fileB en (ss.map Sg.d)) rfl HF.out.symm (hbx3.bs hbx3.lt) (show [].length + fl ≤ _ by simp only [List.length_nil]; omega) (by rw [World.size_alloc]; omega) ?ka1)
        case ka1 =>
          intro v4 w4 hv4 hB4 _
          have hB34 := hB4 W3 hB3
          try rw [List.nil_append] at hv4
          have hBc : Below w.heap.size w w4 := hBb.trans (hB34.mono (by omega))
          obtain ⟨A4, c4, rfl, hbs4⟩ := hv4.form
          rw [← HF.out] at hv4 ⊢
          go_wp2_with (at_builtin; refine wpList_appB_wide _ rfl _ _ rfl (w2.heap.size + 1) _ (fileB en (ss.map Sg.d)) rfl hv4 _ A2 len2 cap2 more rfl hl2 (hr2.below hBc) (by rw [← HF.out]; omega) (by have := hB34.size; omega) ?kb1)
          case kb1 =>
            intro v5 w5 hv5 hB5
            have hBd : Below w.heap.size w w5 := hBb.trans ((hB5 W3 hB34).mono (by omega))
            obtain ⟨A5, c5, rfl, hbs5, hc5⟩ := hv5.form2
            have hl5 : (fileB en (ss.map Sg.d) ++ more).length = fl + len2 := by rw [List.length_append, ← HF.out, hl2]
            rw [hl5] at hc5 ⊢
            go_wp2_with fail
            refine Calls.mono (eRead_wint w5 A5 c5 (fl + len2) _ (fileB en (ss.map Sg.d) ++ more) hbs5 hl5 (by omega) (fun k hk _ => Nat.le_trans (more_small HR.out k hk) (by rw [← HF.out]; omega)) hc5 (by first | rfl | omega)) ?_
            intro e w6 hR
            by_cases h0 : len2 = 0
            · have hd0 : decide (0 < len2) = false := decide_eq_false (by omega)
              have hmn : more = [] := List.eq_nil_of_length_eq_zero (by omega)
              rcases hR with ⟨a, hRa, rfl, hB6⟩ | ⟨en6, v6, gs6, hRa, rfl, hown6, -, hB6⟩
              · rw [hmn, List.append_nil, HR.out] at hRa
                cases hRa
              · clear hRa h0
                obtain ⟨A6, c6, rfl, -⟩ := hown6.row.form
                have hBe : Below w.heap.size w (w6.alloc (.cells #[.int .u64 en6, .slice A6 gs6.length c6] 38)) := (hBd.trans (hB6.mono hBd.size)).alloc (Nat.le_trans hBd.size hB6.size) _
                go_wp2_with fail
                refine Calls.mono (speaks4_true _) ?_
                rintro e w7 ⟨rfl, hB7⟩
                go_wp2
                go_ret
                exact ⟨rfl, hBe.trans (hB7.mono hBe.size)⟩
            · have hd0 : decide (0 < len2) = true := decide_eq_true (by omega)
              obtain ⟨a2, hbad2⟩ := read_more (more := more) HR.out (by rw [hl2]; exact h0)
              rcases hR with ⟨a, hRa, rfl, hB6⟩ | ⟨en6, v6, gs6, hRa, -, -, -, -⟩
              · clear hRa hbad2 h0
                have hBe : Below w.heap.size w (w6.alloc (.cells #[.int .u64 0, .slice none 0 0] 38)) := (hBd.trans (hB6.mono hBd.size)).alloc (Nat.le_trans hBd.size hB6.size) _
                go_wp2_with fail
                refine Calls.mono (speaks4_true _) ?_
                rintro e w7 ⟨rfl, hB7⟩
                go_wp2
                go_ret
                exact ⟨rfl, hBe.trans (hB7.mono hBe.size)⟩
              · rw [hbad2] at hRa
                cases hRa
      · rw [HB1.out] at hRa
        cases hRa
    · have d1 : decide (cut < 0) = false := decide_eq_false hneg
      by_cases hbig : (fl : Int) ≤ cut
      · have d2 : decide ((fl : Int) ≤ cut) = true := decide_eq_true hbig
        obtain ⟨k, hk⟩ : ∃ k, fl = k + 1 := ⟨fl - 1, by omega⟩
        have hkf : k < fl := by omega
        have ek : (fl : Int) - 1 = (k : Int) := by omega
        clear hk hneg hbig
        obtain ⟨a1, hbad1⟩ := read_cut HR.out k (by rw [← HF.out]; exact hkf)
        have HB1 := Lib.hid hbad1
        clear hbad1
        have hk0 : (0 : Int) ≤ (k : Int) := by omega
        have hk1 : (k : Int) ≤ (fl : Int) := by omega
        have hk2 : k ≤ fl := by omega
        go_wp2_with fail
        refine Calls.mono (eRead_any w1 _ fl k ((fileB en (ss.map Sg.d)).take k) (Bs.take hbs k) (by rw [List.length_take, ← HF.out]; omega) (by omega) hk2) ?_
        intro e w2 hR
        rcases hR with ⟨a, hRa, rfl, hB2⟩ | ⟨_, _, _, hRa, -, -, -, -⟩
        · clear hRa
          have hBb : Below w.heap.size w (w2.alloc (.cells #[.int .u64 0, .slice none 0 0] 38)) := (hBa.trans (hB2.mono hBa.size)).alloc (Nat.le_trans hBa.size hB2.size) _
          have hs2 : w.heap.size ≤ w2.heap.size := Nat.le_trans hBa.size hB2.size
          have hbx : Buf (w2.alloc (.cells #[.int .u64 0, .slice none 0 0] 38)) g (fileB en (ss.map Sg.d)) := hbuf.below (hB2.alloc hB2.size _)
          obtain ⟨W3, hW3⟩ : ∃ W : World, W = w2.alloc (.cells #[.int .u64 0, .slice none 0 0] 38) := ⟨_, rfl⟩
          have hs3 : W3.heap.size = w2.heap.size + 1 := by rw [hW3, World.size_alloc]
          rw [← hW3] at hBb hbx
          have hown0 : OwnB (W3.alloc (.cells #[] 5)) W3.heap.size (.slice (some ⟨W3.heap.size, 0, none⟩) 0 0) [] := World.ownsRow_lit W3 #[] 0 (Nat.le_refl _) (by decide) rfl
          rw [hs3] at hown0
          have hB3 : Below (w2.heap.size + 1) W3 (W3.alloc (.cells #[] 5)) := (Below.refl _ _).alloc (by omega) _
          have hbx3 : Buf (W3.alloc (.cells #[] 5)) g (fileB en (ss.map Sg.d)) := hbx.below ((Below.refl _ _).alloc (Nat.le_refl _) _)
          have HW := Lib.hid hW3
          clear hW3
          go_wp2_with (at_builtin; rw [← HW.out]; refine wpList_appB _ rfl _ _ rfl (w2.heap.size + 1) _ [] rfl hown0 _ (some ⟨g, 0, none⟩) fl fl (fileB en (ss.map Sg.d)) rfl HF.out.symm (hbx3.bs hbx3.lt) (show [].length + fl ≤ _ by simp only [List.length_nil]; omega) (by rw [World.size_alloc]; omega) ?ka2)
          case ka2 =>
            intro v4 w4 hv4 hB4 _
            have hB34 := hB4 W3 hB3
            try rw [List.nil_append] at hv4
            have hBc : Below w.heap.size w w4 := hBb.trans (hB34.mono (by omega))
            obtain ⟨A4, c4, rfl, hbs4⟩ := hv4.form
            rw [← HF.out] at hv4 ⊢
            go_wp2_with (at_builtin; refine wpList_appB_wide _ rfl _ _ rfl (w2.heap.size + 1) _ (fileB en (ss.map Sg.d)) rfl hv4 _ A2 len2 cap2 more rfl hl2 (hr2.below hBc) (by rw [← HF.out]; omega) (by have := hB34.size; omega) ?kb2)
            case kb2 =>
              intro v5 w5 hv5 hB5
              have hBd : Below w.heap.size w w5 := hBb.trans ((hB5 W3 hB34).mono (by omega))
              obtain ⟨A5, c5, rfl, hbs5, hc5⟩ := hv5.form2
              have hl5 : (fileB en (ss.map Sg.d) ++ more).length = fl + len2 := by rw [List.length_append, ← HF.out, hl2]
              rw [hl5] at hc5 ⊢
              go_wp2_with fail
              refine Calls.mono (eRead_wint w5 A5 c5 (fl + len2) _ (fileB en (ss.map Sg.d) ++ more) hbs5 hl5 (by omega) (fun k hk _ => Nat.le_trans (more_small HR.out k hk) (by rw [← HF.out]; omega)) hc5 (by first | rfl | omega)) ?_
              intro e w6 hR
              by_cases h0 : len2 = 0
              · have hd0 : decide (0 < len2) = false := decide_eq_false (by omega)
                have hmn : more = [] := List.eq_nil_of_length_eq_zero (by omega)
                rcases hR with ⟨a, hRa, rfl, hB6⟩ | ⟨en6, v6, gs6, hRa, rfl, hown6, -, hB6⟩
                · rw [hmn, List.append_nil, HR.out] at hRa
                  cases hRa
                · clear hRa h0
                  obtain ⟨A6, c6, rfl, -⟩ := hown6.row.form
                  have hBe : Below w.heap.size w (w6.alloc (.cells #[.int .u64 en6, .slice A6 gs6.length c6] 38)) := (hBd.trans (hB6.mono hBd.size)).alloc (Nat.le_trans hBd.size hB6.size) _
                  go_wp2_with fail
                  refine Calls.mono (speaks4_true _) ?_
                  rintro e w7 ⟨rfl, hB7⟩
                  go_wp2
                  go_ret
                  exact ⟨rfl, hBe.trans (hB7.mono hBe.size)⟩
              · have hd0 : decide (0 < len2) = true := decide_eq_true (by omega)
                obtain ⟨a2, hbad2⟩ := read_more (more := more) HR.out (by rw [hl2]; exact h0)
                rcases hR with ⟨a, hRa, rfl, hB6⟩ | ⟨en6, v6, gs6, hRa, -, -, -, -⟩
                · clear hRa hbad2 h0
                  have hBe : Below w.heap.size w (w6.alloc (.cells #[.int .u64 0, .slice none 0 0] 38)) := (hBd.trans (hB6.mono hBd.size)).alloc (Nat.le_trans hBd.size hB6.size) _
                  go_wp2_with fail
                  refine Calls.mono (speaks4_true _) ?_
                  rintro e w7 ⟨rfl, hB7⟩
                  go_wp2
                  go_ret
                  exact ⟨rfl, hBe.trans (hB7.mono hBe.size)⟩
                · rw [hbad2] at hRa
                  cases hRa
        · rw [HB1.out] at hRa
          cases hRa
      · have d2 : decide ((fl : Int) ≤ cut) = false := decide_eq_false hbig
        obtain ⟨k, rfl⟩ : ∃ k : Nat, cut = (k : Int) := ⟨cut.toNat, by omega⟩
        have hkf : k < fl := by omega
        clear hneg hbig
        obtain ⟨a1, hbad1⟩ := read_cut HR.out k (by rw [← HF.out]; exact hkf)
        have HB1 := Lib.hid hbad1
        clear hbad1
        have hk0 : (0 : Int) ≤ (k : Int) := by omega
        have hk1 : (k : Int) ≤ (fl : Int) := by omega
        have hk2 : k ≤ fl := by omega
        go_wp2_with fail
        refine Calls.mono (eRead_any w1 _ fl k ((fileB en (ss.map Sg.d)).take k) (Bs.take hbs k) (by rw [List.length_take, ← HF.out]; omega) (by omega) hk2) ?_
        intro e w2 hR
        rcases hR with ⟨a, hRa, rfl, hB2⟩ | ⟨_, _, _, hRa, -, -, -, -⟩
        · clear hRa
          have hBb : Below w.heap.size w (w2.alloc (.cells #[.int .u64 0, .slice none 0 0] 38)) := (hBa.trans (hB2.mono hBa.size)).alloc (Nat.le_trans hBa.size hB2.size) _
          have hs2 : w.heap.size ≤ w2.heap.size := Nat.le_trans hBa.size hB2.size
          have hbx : Buf (w2.alloc (.cells #[.int .u64 0, .slice none 0 0] 38)) g (fileB en (ss.map Sg.d)) := hbuf.below (hB2.alloc hB2.size _)
          obtain ⟨W3, hW3⟩ : ∃ W : World, W = w2.alloc (.cells #[.int .u64 0, .slice none 0 0] 38) := ⟨_, rfl⟩
          have hs3 : W3.heap.size = w2.heap.size + 1 := by rw [hW3, World.size_alloc]
          rw [← hW3] at hBb hbx
          have hown0 : OwnB (W3.alloc (.cells #[] 5)) W3.heap.size (.slice (some ⟨W3.heap.size, 0, none⟩) 0 0) [] := World.ownsRow_lit W3 #[] 0 (Nat.le_refl _) (by decide) rfl
          rw [hs3] at hown0
          have hB3 : Below (w2.heap.size + 1) W3 (W3.alloc (.cells #[] 5)) := (Below.refl _ _).alloc (by omega) _
          have hbx3 : Buf (W3.alloc (.cells #[] 5)) g (fileB en (ss.map Sg.d)) := hbx.below ((Below.refl _ _).alloc (Nat.le_refl _) _)
          have HW := Lib.hid hW3
          clear hW3
          go_wp2_with (at_builtin; rw [← HW.out]; refine wpList_appB _ rfl _ _ rfl (w2.heap.size + 1) _ [] rfl hown0 _ (some ⟨g, 0, none⟩) fl fl (fileB en (ss.map Sg.d)) rfl HF.out.symm (hbx3.bs hbx3.lt) (show [].length + fl ≤ _ by simp only [List.length_nil]; omega) (by rw [World.size_alloc]; omega) ?ka3)
          case ka3 =>
            intro v4 w4 hv4 hB4 _
            have hB34 := hB4 W3 hB3
            try rw [List.nil_append] at hv4
            have hBc : Below w.heap.size w w4 := hBb.trans (hB34.mono (by omega))
            obtain ⟨A4, c4, rfl, hbs4⟩ := hv4.form
            rw [← HF.out] at hv4 ⊢
            go_wp2_with (at_builtin; refine wpList_appB_wide _ rfl _ _ rfl (w2.heap.size + 1) _ (fileB en (ss.map Sg.d)) rfl hv4 _ A2 len2 cap2 more rfl hl2 (hr2.below hBc) (by rw [← HF.out]; omega) (by have := hB34.size; omega) ?kb3)
            case kb3 =>
              intro v5 w5 hv5 hB5
              have hBd : Below w.heap.size w w5 := hBb.trans ((hB5 W3 hB34).mono (by omega))
              obtain ⟨A5, c5, rfl, hbs5, hc5⟩ := hv5.form2
              have hl5 : (fileB en (ss.map Sg.d) ++ more).length = fl + len2 := by rw [List.length_append, ← HF.out, hl2]
              rw [hl5] at hc5 ⊢
              go_wp2_with fail
              refine Calls.mono (eRead_wint w5 A5 c5 (fl + len2) _ (fileB en (ss.map Sg.d) ++ more) hbs5 hl5 (by omega) (fun k hk _ => Nat.le_trans (more_small HR.out k hk) (by rw [← HF.out]; omega)) hc5 (by first | rfl | omega)) ?_
              intro e w6 hR
              by_cases h0 : len2 = 0
              · have hd0 : decide (0 < len2) = false := decide_eq_false (by omega)
                have hmn : more = [] := List.eq_nil_of_length_eq_zero (by omega)
                rcases hR with ⟨a, hRa, rfl, hB6⟩ | ⟨en6, v6, gs6, hRa, rfl, hown6, -, hB6⟩
                · rw [hmn, List.append_nil, HR.out] at hRa
                  cases hRa
                · clear hRa h0
                  obtain ⟨A6, c6, rfl, -⟩ := hown6.row.form
                  have hBe : Below w.heap.size w (w6.alloc (.cells #[.int .u64 en6, .slice A6 gs6.length c6] 38)) := (hBd.trans (hB6.mono hBd.size)).alloc (Nat.le_trans hBd.size hB6.size) _
                  go_wp2_with fail
                  refine Calls.mono (speaks4_true _) ?_
                  rintro e w7 ⟨rfl, hB7⟩
                  go_wp2
                  go_ret
                  exact ⟨rfl, hBe.trans (hB7.mono hBe.size)⟩
              · have hd0 : decide (0 < len2) = true := decide_eq_true (by omega)
                obtain ⟨a2, hbad2⟩ := read_more (more := more) HR.out (by rw [hl2]; exact h0)
                rcases hR with ⟨a, hRa, rfl, hB6⟩ | ⟨en6, v6, gs6, hRa, -, -, -, -⟩
                · clear hRa hbad2 h0
                  have hBe : Below w.heap.size w (w6.alloc (.cells #[.int .u64 0, .slice none 0 0] 38)) := (hBd.trans (hB6.mono hBd.size)).alloc (Nat.le_trans hBd.size hB6.size) _
                  go_wp2_with fail
                  refine Calls.mono (speaks4_true _) ?_
                  rintro e w7 ⟨rfl, hB7⟩
                  go_wp2
                  go_ret
                  exact ⟨rfl, hBe.trans (hB7.mono hBe.size)⟩
                · rw [hbad2] at hRa
                  cases hRa
        · rw [HB1.out] at hRa
          cases hRa
  · have hBa := hb0.trans (hB1.mono hb0.size)
    have HC := Lib.hid hc
    clear hc
    go_wp2_with fail
    refine Calls.mono (speaks4_true _) ?_
    rintro e w4 ⟨rfl, hB4⟩
    go_wp2
    go_ret
    exact ⟨rfl, hBa.trans (hB4.mono hBa.size)⟩
end Go.Proofs
