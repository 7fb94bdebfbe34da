/- (*program).bytes: the text's bytes. -/
import Derived.Test.YtemngapfnkokiaaDoorCode
import Derived.Test.YtemngapfnkokiaaDoorAsmW
import Derived.Test.YtemngapfnkokiaaDoorLoads
import Derived.OwnWalk
namespace Go.Pat
open Go Go.RowKit Go.Proofs
theorem le4_wr (z : Nat) : le 4 (wrN (z : Int)) = le 4 z := by
  have key : ∀ i, i < 4 → UInt8.ofNat (wrN (z : Int) / 256 ^ i) = UInt8.ofNat (z / 256 ^ i) := by
    intro i hi
    apply UInt8.toNat_inj.1
    rw [UInt8.toNat_ofNat', UInt8.toNat_ofNat']
    have hw : wrN (z : Int) = z % 18446744073709551616 := by unfold wrN; omega
    rw [hw]
    rcases (show i = 0 ∨ i = 1 ∨ i = 2 ∨ i = 3 by omega) with rfl | rfl | rfl | rfl <;> simp only [Nat.reducePow] <;> omega
  unfold le
  apply List.map_congr_left
  intro i hi
  exact key i (List.mem_range.1 hi)
theorem insB_length (l : List In) : (insB l).length = 4 * l.length := by
  induction l with
  | nil => rfl
  | cons i r ih => simp [insB, le_length, ih]; omega
theorem insB_take (l : List In) (j : Nat) (hj : j < l.length) : insB (l.take (j + 1)) = insB (l.take j) ++ le 4 (encZ l[j].op l[j].rd l[j].a l[j].b l[j].n) := by
  rw [List.take_add_one, List.getElem?_eq_getElem hj, insB_append]
  simp [insB]
theorem bytM_drop (F : Names) (l : List (It × Int)) (k : Nat) (hk : k < l.length) (a : Nat) (out : List UInt8) :
    bytM F k a (l.drop k) out = if (codeM l[k].1 l[k].2 (distM F l[k].1.s a)).2 then bytM F (k + 1) (wrN ((a : Int) + l[k].2)) (l.drop (k + 1)) (out ++ (insB (codeM l[k].1 l[k].2 (distM F l[k].1.s a)).1 ++ rawM l[k].1)) else .inl k := by
  rw [List.drop_eq_getElem_cons hk]; rfl
theorem code_len (x : It) (s d : Int) : (codeM x s d).1.length ≤ 12 := by
  unfold codeM
  repeat' split
  all_goals first
    | (simp; done)
    | (unfold jumpM; simp; done)
    | exact liM_len 6 _ _
theorem raw_len (x : It) (h : x.k = 9 → 0 ≤ x.n ∧ x.n ≤ 1048576) : (rawM x).length ≤ 1048576 := by
  unfold rawM
  by_cases h8 : x.k = 8
  · rw [if_pos h8, le_length]; decide
  · rw [if_neg h8]
    by_cases h9 : x.k = 9
    · rw [if_pos h9, List.length_replicate]
      have := h h9
      omega
    · rw [if_neg h9]; simp
end Go.Pat
namespace Go.Proofs
open Go Go.RowKit Go.Pat
theorem form1b {w w2 : World} (h : Below w.heap.size w w2) (o : Obj) : Below w.heap.size w2 (w2.alloc o) := (Below.refl _ _).alloc h.size o
section
variable (B : Nat) (w : World) (p : Nat) (TA : Option Addr) (tc : Nat) (text : List It) (DA : Option Addr) (dc : Nat) (data : List It) (at_ dat mb nm : Nat) (F : Names) (sv : Value) (S : List Int)
def BytesTo (R : Nat ⊕ List UInt8) (e : Ending) (w' : World) : Prop :=
  Below w.heap.size w w' ∧ match R with
  | .inl n => e = .returned (.tuple #[.slice none 0 0, .int .i64 52, .int .i64 (n : Int)])
  | .inr l => ∃ v, e = .returned (.tuple #[v, .int .i64 0, .int .i64 0]) ∧ OwnB w' w.heap.size v l
set_option maxRecDepth 20000 in
set_option maxHeartbeats 8000000 in
theorem abytes_any (hP : Pm B w p TA tc text DA dc data at_ dat mb nm F sv S) (hl : S.length = text.length) (hns : ∀ x ∈ text, x.s.size ≤ maxLen) (hni : ∀ x ∈ text, -9223372036854775808 ≤ x.n ∧ x.n < 9223372036854775808)
    (h7 : ∀ x ∈ text, x.k = 7 → 5 ≤ x.op ∧ x.op ≤ 10) (h9 : ∀ x ∈ text, x.k = 9 → 0 ≤ x.n ∧ x.n ≤ 1048576) (hat : at_ < 18446744073709551616) :
    Calls Tryd.prog 47 #[.pointer (some ⟨p, 0, none⟩)] w (BytesTo w (bytM F 0 at_ (text.zip S) [])) := by
  obtain ⟨R, hR⟩ : ∃ R, bytM F 0 at_ (text.zip S) [] = R := ⟨_, rfl⟩
  rw [hR]
  have HP1 := Lib.hid (show ∀ n W, R = .inl n → Below w.heap.size w W → BytesTo w R (.returned (.tuple #[.slice none 0 0, .int .i64 52, .int .i64 (n : Int)])) W from fun n W h1 h2 => ⟨h2, by simp only [h1]⟩)
  have HP2 := Lib.hid (show ∀ l v W, R = .inr l → Below w.heap.size w W → OwnB W w.heap.size v l → BytesTo w R (.returned (.tuple #[v, .int .i64 0, .int .i64 0])) W from fun l v W h1 h2 h3 => ⟨h2, by simp only [h1]; exact ⟨v, rfl, h3⟩⟩)
  generalize BytesTo w R = PP at *
  obtain ⟨A, c, rfl, hA⟩ := hP.szs.form
  have c0 : w.cell? ⟨p, 0, none⟩ = some (.slice TA text.length tc) := hP.pr.cell 0
  have c2 : w.cell? ⟨p, 2, none⟩ = some (.int .u64 (at_ : Int)) := hP.pr.cell 2
  have htl := hP.pr.tl
  have hp0 := hP.lt
  have HR := Lib.hid hR
  have HP0 := Lib.hid hP
  have HlS := Lib.hid hl
  have HN := Lib.hid (And.intro hns (And.intro hni (And.intro h7 h9)))
  clear hR hP hl hns hni h7 h9 hA
  go_enter Tryd.func47, Tryd.ntmps47
  go_wp2_with fail
  go_loopw [5, 6, 24] (fun q a i wr => ∃ (k : Nat) (out : List UInt8) (ad : Nat), k ≤ text.length ∧ i = .int .i64 k ∧ a = .int .u64 (ad : Int) ∧ ad < 18446744073709551616 ∧ bytM F k ad ((text.zip S).drop k) out = R ∧ out.length ≤ k * 1048700 ∧ OwnB wr w.heap.size q out ∧ Below w.heap.size w wr) (fun _ _ i _ => text.length - (intOf i).toNat)
  case atStart => exact ⟨0, [], at_, Nat.zero_le _, rfl, rfl, hat, HR.out, Nat.zero_le _, OwnB.nil _ _, Below.refl _ _⟩
  case round =>
    obtain ⟨k, out, ad, hk, rfl, rfl, had, hd, hol, hown, hB⟩ := hrel
    obtain ⟨Aq, cq, rfl, -⟩ := hown.form
    have hPr := HP0.out.keep hB
    by_cases hlt : k < text.length
    · have t1 : decide ((k : Int) < (text.length : Int)) = true := decide_eq_true (by omega)
      have hku : (k : Int) < (text.length : Int) := by omega
      obtain ⟨b, o, e0, hb, x0, x1, x2, x3, x4, x5, x6⟩ := item_at hPr.tx2 k hlt
      cases e0
      have hkS : k < S.length := by have := HlS.out; omega
      have hz : k < (text.zip S).length := by have := HlS.out; simp; omega
      rw [bytM_drop F (text.zip S) k hz ad out] at hd
      simp only [List.getElem_zip] at hd
      have hmem := List.getElem_mem hlt
      have HC0 : ∀ W, Pm B W p (some ⟨b, o, none⟩) tc text DA dc data at_ dat mb nm F (.slice A S.length c) S → Calls Tryd.prog 77 #[.pointer (some ⟨p, 0, none⟩), .int .i64 (k : Int), .int .u64 (ad : Int)] W (CodeTo (codeM text[k] S[k] (distM F (text[k]).s ad)) W) := fun W hW => by
        obtain ⟨A2, c3, e2, hcs⟩ := hW.szs.form
        cases e2
        exact acode_any W p _ tc text DA dc data at_ dat mb A c S hW.pr nm F hW.map hcs HlS.out k hlt ad (HN.out.1 _ hmem) hW.tz (HN.out.2.1 _ hmem) (HN.out.2.2.1 _ hmem)
      have HW0 : ∀ W, Calls Tryd.prog 48 #[.agg (text[k]).cs] W (RawTo (rawM text[k]) W) := fun W => araw_any text[k] (HN.out.2.2.2 _ hmem) W
      have hcl := code_len text[k] S[k] (distM F (text[k]).s ad)
      have hrl := raw_len text[k] (HN.out.2.2.2 _ hmem)
      generalize codeM text[k] S[k] (distM F (text[k]).s ad) = cm at *
      generalize rawM text[k] = rl at *
      have hcs : (text[k]).cs = #[.int .i64 (text[k]).k, .string (text[k]).s, .int .i64 (text[k]).op, .int .i64 (text[k]).rd, .int .i64 (text[k]).a, .int .i64 (text[k]).b, .int .i64 (text[k]).n] := rfl
      rw [hcs] at HW0
      clear hcs hmem
      obtain ⟨b2, o2, e3, hb2, y0⟩ := hPr.size_at k hkS
      cases e3
      have HU := Lib.hid (u64_add ad S[k])
      have HUl := Lib.hid (wrN_lt ((ad : Int) + S[k]))
      generalize text[k].k = v0 at *
      generalize text[k].s = v1 at *
      generalize text[k].op = v2 at *
      generalize text[k].rd = v3 at *
      generalize text[k].a = v4 at *
      generalize text[k].b = v5 at *
      generalize text[k].n = v6 at *
      obtain ⟨ins, bb⟩ := cm
      have HC := Lib.hid (show ∀ W, Pm B W p (some ⟨b, o, none⟩) tc text DA dc data at_ dat mb nm F (.slice (some ⟨b2, o2, none⟩) S.length c) S → Calls Tryd.prog 77 #[.pointer (some ⟨p, 0, none⟩), .int .i64 (k : Int), .int .u64 (ad : Int)] W (fun e w' => ∃ v, e = .returned (.tuple #[v, .bool bb]) ∧ OwnI w' W.heap.size v ins ∧ Below W.heap.size W w') from HC0)
      have HW := Lib.hid HW0
      have hil : ins.length ≤ 12 := hcl
      clear HC0 HW0 hcl
      have hP1 := hPr.keep (form1 wr (.cells #[.int .i64 v0, .string v1, .int .i64 v2, .int .i64 v3, .int .i64 v4, .int .i64 v5, .int .i64 v6] 61))
      have hX1 := heap_alloc_new wr (.cells #[.int .i64 v0, .string v1, .int .i64 v2, .int .i64 v3, .int .i64 v4, .int .i64 v5, .int .i64 v6] 61)
      have hb1 := hB.trans (form1b hB (.cells #[.int .i64 v0, .string v1, .int .i64 v2, .int .i64 v3, .int .i64 v4, .int .i64 v5, .int .i64 v6] 61))
      have hp := hPr.lt
      have HPX := Lib.hid (And.intro hP1 (And.intro hX1 hb1))
      have hown1 := hown.alloc (.cells #[.int .i64 v0, .string v1, .int .i64 v2, .int .i64 v3, .int .i64 v4, .int .i64 v5, .int .i64 v6] 61)
      have HO1 := Lib.hid hown1
      clear hP1 hX1 hb1 hown hown1 hPr
      cases bb with
      | false =>
        simp only [Bool.false_eq_true, if_false] at hd
        have HD := Lib.hid hd
        clear hd
        go_wp2_with fail
        with_reducible refine Calls.mono (HC.out _ HPX.out.1) ?_
        rintro e w2 ⟨v, rfl, _, hB2⟩
        go_wp2_with fail
        go_ret3
        exact HP1.out k _ HD.out.symm (HPX.out.2.2.trans (hB2.mono HPX.out.2.2.size))
      | true =>
        simp only [if_true] at hd
        have HD := Lib.hid hd
        clear hd
        go_wp2_with fail
        with_reducible refine Calls.mono (HC.out _ HPX.out.1) ?_
        rintro e w2 ⟨v, rfl, hvo, hB2⟩
        obtain ⟨A1, c1, rfl, hc1⟩ := hvo.form
        have hX2 := (hB2.block wr.heap.size (by rw [World.size_alloc]; omega)).trans HPX.out.2.1
        have hown2 : OwnB w2 w.heap.size (.slice Aq out.length cq) out := HO1.out.below hB2
        have hbw2 := HPX.out.2.2.trans (hB2.mono HPX.out.2.2.size)
        have hsw : wr.heap.size < w2.heap.size := lt_of_block hX2
        have HKI := Lib.hid (show ∀ W : World, (∀ g, g < w2.heap.size → (Value.slice Aq out.length cq).ownBlock ≠ some g → W.heap[g]? = w2.heap[g]?) → OwnI W _ (.slice A1 ins.length c1) ins from fun W hK => owns_keep hvo fun g hg => by
          obtain ⟨_, cur, hc⟩ := owns_block hvo hg
          refine hK g (lt_of_block hc) fun e => ?_
          obtain ⟨_, cur2, hc2⟩ := hown2.block e
          rw [hc] at hc2
          cases hc2)
        have HKX := Lib.hid (show ∀ W : World, (∀ g, g < w2.heap.size → (Value.slice Aq out.length cq).ownBlock ≠ some g → W.heap[g]? = w2.heap[g]?) → W.heap[wr.heap.size]? = _ from fun W hK => (hK wr.heap.size hsw fun e => by
          obtain ⟨_, cur2, hc2⟩ := hown2.block e
          rw [hX2] at hc2
          cases hc2).trans hX2)
        have HO2 := Lib.hid (And.intro hown2 hbw2)
        clear hvo hX2 hown2 hbw2 hc1 hB2
        go_wp2_with fail
        go_loopw [5, 41] (fun qo i wr => ∃ (j : Nat), j ≤ ins.length ∧ i = .int .i64 j ∧ OwnB wr w.heap.size qo (out ++ insB (ins.take j)) ∧ (∀ g, g < w2.heap.size → (Value.slice Aq out.length cq).ownBlock ≠ some g → wr.heap[g]? = w2.heap[g]?) ∧ NewOr w2 (.slice Aq out.length cq) qo ∧ Below w.heap.size w wr ∧ w2.heap.size ≤ wr.heap.size) (fun _ i _ => ins.length - (intOf i).toNat)
        case atStart => exact ⟨0, Nat.zero_le _, rfl, by simpa [insB] using HO2.out.1, fun _ _ _ => rfl, fun _ h => .inl h, HO2.out.2, Nat.le_refl _⟩
        case round =>
          obtain ⟨j, hj, rfl, hown, hK, hN, hB, hS⟩ := hrel
          have hPr := HP0.out.keep hB
          by_cases hjt : j < ins.length
          · have t2 : decide ((j : Int) < (ins.length : Int)) = true := decide_eq_true (by omega)
            have hju : (j : Int) < (ins.length : Int) := by omega
            have hI := HKI.out _ hK
            obtain ⟨A5, c5, e5, hcI⟩ := hI.form
            cases e5
            obtain ⟨b3, o3, rfl, hb3, z0, z1, z2, z3, z4⟩ := ins_at hcI j hjt
            have hTk := insB_take ins j hjt
            have HE0 := (fun W hW => rvEncode_any ins[j].op ins[j].rd ins[j].a ins[j].b ins[j].n W hW)
            unfold EncV at HE0
            rw [← le4_wr] at hTk
            generalize insE ins[j].op ins[j].rd ins[j].a ins[j].b ins[j].n = er at *
            generalize encZ ins[j].op ins[j].rd ins[j].a ins[j].b ins[j].n = z at *
            generalize ins[j].op = y0 at *
            generalize ins[j].rd = y1 at *
            generalize ins[j].a = y2 at *
            generalize ins[j].b = y3 at *
            generalize ins[j].n = y4 at *
            obtain ⟨yz, hyz⟩ : ∃ yz, wrN (z : Int) = yz := ⟨_, rfl⟩
            rw [hyz] at hTk
            have wz : IntKind.u64.wrap (z : Int) = (yz : Int) := by rw [← hyz, wrN_is]
            have hyl : yz < 18446744073709551616 := by rw [← hyz]; exact wrN_lt z
            have hTk2 : out ++ insB (ins.take (j + 1)) = (out ++ insB (ins.take j)) ++ le 4 yz := by rw [hTk, List.append_assoc]
            have HE := Lib.hid HE0
            have hlo : (out ++ insB (ins.take j)).length ≤ 140737488000000 := by
              rw [List.length_append, insB_length, List.length_take]
              have : k * 1048700 ≤ 1048576 * 1048700 := Nat.mul_le_mul_right _ (by omega)
              omega
            clear hTk
            generalize out ++ insB (ins.take j) = ot at *
            have HTk := Lib.hid hTk2
            clear hTk2
            obtain ⟨Ao, co, rfl, -⟩ := hown.form
            have HO := Lib.hid (And.intro hown (And.intro hK (And.intro hN (And.intro hB (And.intro hPr.rv hlo)))))
            have hsz0 : w.heap.size ≤ wr.heap.size := hB.size
            clear hown hK hN hB HE0 hI hcI hPr hlo hyz
            go_wp2_with fail
            with_reducible refine Calls.mono (HE.out _ (HO.out.2.2.2.2.1.below (form1 _ _))) ?_
            rintro e w3 ⟨rfl, hB3⟩
            have hBx := (form1 _ _).trans (hB3.mono (form1 _ _).size)
            have HBx := Lib.hid hBx
            clear hBx hB3
            go_wp2_with fail
            refine Calls.mono (alittle_any w3 w.heap.size _ _ yz 4 (HO.out.1.below HBx.out) (Nat.le_trans hsz0 HBx.out.size) hyl (by decide) HO.out.2.2.2.2.2) ?_
            rintro e w4 ⟨v5, rfl, hown4, hB4, hK4, hN4, hS4⟩
            have HX := Lib.hid (And.intro hown4 (And.intro hB4 (And.intro hK4 (And.intro hN4 hS4))))
            clear hown4 hB4 hK4 hN4
            go_wp2_with fail
            go_roundw
            case rel =>
              have hsw3 := HBx.out.size
              refine ⟨j + 1, by omega, by go_num, ?_, ?_, ?_, ?_, by omega⟩
              · have h1 := HX.out.1
                rw [← HTk.out] at h1
                exact h1
              · intro g hg hne
                have h1 := HX.out.2.2.1 g (by omega) (fun e => by
                  rcases HO.out.2.2.1 g e with h | h
                  · exact hne h
                  · omega)
                rw [h1, HBx.out.block g (by omega)]
                exact HO.out.2.1 g hg hne
              · intro g hg
                rcases HX.out.2.2.2.1 g hg with h | h
                · exact HO.out.2.2.1 g h
                · exact .inr (by omega)
              · exact HX.out.2.1 w (HO.out.2.2.2.1.trans (HBx.out.mono hsz0))
            case measure => simp [intOf]; omega
          · have t2 : decide ((j : Int) < (ins.length : Int)) = false := decide_eq_false (by omega)
            obtain rfl : j = ins.length := by omega
            rw [List.take_length] at hown
            have hX := HKX.out _ hK
            have g0 : wr.cell? ⟨_, 0, none⟩ = some (.int .i64 v0) := (obj_cell hX 0).trans rfl
            have g1 : wr.cell? ⟨_, 1, none⟩ = some (.string v1) := (obj_cell hX 1).trans rfl
            have g2 : wr.cell? ⟨_, 2, none⟩ = some (.int .i64 v2) := (obj_cell hX 2).trans rfl
            have g3 : wr.cell? ⟨_, 3, none⟩ = some (.int .i64 v3) := (obj_cell hX 3).trans rfl
            have g4 : wr.cell? ⟨_, 4, none⟩ = some (.int .i64 v4) := (obj_cell hX 4).trans rfl
            have g5 : wr.cell? ⟨_, 5, none⟩ = some (.int .i64 v5) := (obj_cell hX 5).trans rfl
            have g6 : wr.cell? ⟨_, 6, none⟩ = some (.int .i64 v6) := (obj_cell hX 6).trans rfl
            have hxl := lt_of_block hX
            have hlo : (out ++ insB ins).length ≤ k * 1048700 + 48 := by
              rw [List.length_append, insB_length]
              omega
            have hlo2 : (out ++ insB ins ++ rl).length ≤ (k + 1) * 1048700 := by
              rw [List.length_append, Nat.add_mul]
              omega
            have hlo3 : (out ++ insB ins).length + rl.length ≤ 140737488355328 := by
              have : k * 1048700 ≤ 1048576 * 1048700 := Nat.mul_le_mul_right _ (by omega)
              omega
            rw [← List.append_assoc] at HD
            generalize out ++ insB ins = ot at *
            have HHL := Lib.hid (And.intro hlo2 hlo3)
            obtain ⟨Ao, co, rfl, -⟩ := hown.form
            have HO := Lib.hid (And.intro hown hB)
            have hsz0 : w.heap.size ≤ wr.heap.size := hB.size
            clear hown hK hN hB hX hlo hlo2 hlo3
            go_wp2_with fail
            with_reducible refine Calls.mono (HW.out _) ?_
            rintro e w6 ⟨vr, rfl, hor, hB6⟩
            obtain ⟨A6, c6, rfl, hc6⟩ := hor.form
            have hs6 := hB6.size
            have HO6 := Lib.hid (And.intro (HO.out.1.below hB6) (And.intro hc6 (HO.out.2.trans (hB6.mono hsz0))))
            clear hor hc6 hB6
            go_wp2_with (at_builtin
                         refine wpList_appB2 _ rfl _ _ rfl w.heap.size _ ot rfl HO6.out.1 _ A6 rl.length c6 rl rfl rfl HO6.out.2.1 HHL.out.2 (by omega) ?_
                         intro v7 w7 hown7 hB7 hK7 hN7 hS7
                         have hBw := hB7 w HO6.out.2.2
                         have hP7 := HP0.out.keep hBw
                         have p5 : w7.cell? ⟨p, 5, none⟩ = some (.slice (some ⟨b2, o2, none⟩) S.length c) := hP7.pr.cell 5
                         have p6 : w7.cell? ⟨b2, o2 + k, none⟩ = some (.int .i64 S[k]) := by
                           obtain ⟨b', o', e7, _, h⟩ := hP7.size_at k hkS
                           cases e7
                           exact h
                         have hpl7 := hP7.lt
                         have hkl : (k : Int) < (S.length : Int) := by omega
                         have H7 := Lib.hid (And.intro hown7 hBw)
                         generalize S[k] = sz at *
                         clear hown7 hB7 hK7 hN7 hBw hP7)
            go_roundw
            case rel => exact ⟨k + 1, ot ++ rl, _, by omega, by go_num, congrArg (Value.int .u64) HU.out, HUl.out, HD.out, HHL.out.1, H7.out.1, H7.out.2⟩
            case measure => simp [intOf]; omega
    · have t1 : decide ((k : Int) < (text.length : Int)) = false := decide_eq_false (by omega)
      obtain rfl : k = text.length := by omega
      rw [show (text.zip S).drop text.length = [] from List.drop_of_length_le (by simp; omega)] at hd
      have HD := Lib.hid (show R = .inr out from hd.symm)
      have HF := Lib.hid (And.intro hown hB)
      clear hd hown hB hPr
      go_wp2_with fail
      go_ret3
      exact HP2.out out _ _ HD.out HF.out.2 HF.out.1
end
end Go.Proofs
