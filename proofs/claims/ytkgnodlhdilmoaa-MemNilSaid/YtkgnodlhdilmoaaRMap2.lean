/- patinaref02.Map. -/
import Derived.Test.YtkgnodlhdilmoaaRMap
namespace Go.Pat
open Go Go.RowKit Go.Proofs

/-- how many pages lie aheadP of a place. -/
def aheadP (l : List Pgd) (b : Nat) : Nat := (l.takeWhile (fun p => decide (p.base ≤ b))).length
/-- pages with new ones among them. -/
def refMap (l : List Pgd) (b : Nat) (perm : Int) (n : Nat) : List Pgd := l.take (aheadP l b) ++ fresh b perm n ++ l.drop (aheadP l b)
def mapTo (l : List Pgd) (b : Nat) (perm : Int) (n i : Nat) : List Pgd := if i ≤ aheadP l b then l.take i else l.take (aheadP l b) ++ fresh b perm n ++ (l.take i).drop (aheadP l b)
def inMap (b n : Nat) (p : Pgd) : Prop := b ≤ p.base ∧ p.base - b < n * 4096

theorem ahead_le (l : List Pgd) (b : Nat) : aheadP l b ≤ l.length := by
  unfold aheadP
  exact List.Sublist.length_le (List.takeWhile_sublist _)
theorem ahead_lt {l : List Pgd} {b i : Nat} (hi : i < aheadP l b) (hl : i < l.length) : l[i].base ≤ b := by
  induction l generalizing i with
  | nil => simp at hl
  | cons p l ih =>
    by_cases hp : p.base ≤ b
    · have e : aheadP (p :: l) b = aheadP l b + 1 := by simp [aheadP, hp]
      cases i with
      | zero => exact hp
      | succ i => exact ih (by omega) (by simpa using hl)
    · have e : aheadP (p :: l) b = 0 := by simp [aheadP, hp]
      omega
theorem ahead_at {l : List Pgd} {b : Nat} (hl : aheadP l b < l.length) : b < (l[aheadP l b]).base := by
  induction l with
  | nil => simp [aheadP] at hl
  | cons p l ih =>
    by_cases hp : p.base ≤ b
    · have e : aheadP (p :: l) b = aheadP l b + 1 := by simp [aheadP, hp]
      rw [e] at hl
      simp only [e, List.getElem_cons_succ]
      exact ih (by simpa using hl)
    · have e : aheadP (p :: l) b = 0 := by simp [aheadP, hp]
      simp only [e, List.getElem_cons_zero]
      omega

theorem mapTo_lt {l : List Pgd} {b : Nat} {perm : Int} {n i : Nat} (hi : i < aheadP l b) (hl : i < l.length) : mapTo l b perm n (i + 1) = mapTo l b perm n i ++ [l[i]] := by
  unfold mapTo
  rw [if_pos (by omega), if_pos (by omega)]
  exact List.take_succ_eq_append_getElem hl
theorem mapTo_at {l : List Pgd} {b : Nat} {perm : Int} {n : Nat} (hl : aheadP l b < l.length) : mapTo l b perm n (aheadP l b + 1) = (mapTo l b perm n (aheadP l b) ++ fresh b perm n) ++ [l[aheadP l b]] := by
  unfold mapTo
  rw [if_neg (by omega), if_pos (Nat.le_refl _)]
  rw [List.take_succ_eq_append_getElem hl, List.drop_append_of_le_length (by simp; omega), List.drop_take_self]
  simp
theorem mapTo_gt {l : List Pgd} {b : Nat} {perm : Int} {n i : Nat} (hi : aheadP l b < i) (hl : i < l.length) : mapTo l b perm n (i + 1) = mapTo l b perm n i ++ [l[i]] := by
  unfold mapTo
  rw [if_neg (by omega), if_neg (by omega)]
  rw [List.take_succ_eq_append_getElem hl, List.drop_append_of_le_length (by simp; omega)]
  simp
theorem mapTo_all {l : List Pgd} {b : Nat} {perm : Int} {n : Nat} : refMap l b perm n = if l.length ≤ aheadP l b then mapTo l b perm n l.length ++ fresh b perm n else mapTo l b perm n l.length := by
  have := ahead_le l b
  unfold refMap mapTo
  split
  · rename_i h
    rw [List.take_length, List.take_of_length_le h, List.drop_of_length_le h]
    simp
  · rw [List.take_length]
end Go.Pat
namespace Go.Proofs
open Go Go.RowKit Go.Pat

set_option maxHeartbeats 1000000 in
theorem rMap2_arg (w : World) (A : Option Addr) (k cap : Nat) (base size : Nat) (perm : Int) (hba : base < 18446744073709551616) (hsi : size < 18446744073709551616) (h : base % 4096 ≠ 0 ∨ size = 0 ∨ 281474976710656 < base ∨ 281474976710656 - base < size) :
    Calls Try.prog 40 #[.slice A k cap, .int .u64 base, .int .i64 perm, .int .u64 size] w fun e w' => e = .returned (.tuple #[.slice A k cap, .int .i64 1]) ∧ w = w' := by
  cases h1 : ((base : Int) % 4096 != 0) with
  | true =>
    clear h
    go_enter Try.func40, Try.ntmps40
    go_wp2
    go_ret2
    exact ⟨rfl, rfl⟩
  | false =>
    cases h2 : ((size : Int) == 0) with
    | true =>
      clear h
      go_enter Try.func40, Try.ntmps40
      go_wp2
      go_ret2
      exact ⟨rfl, rfl⟩
    | false =>
      cases h3 : decide ((281474976710656 : Int) < (base : Int)) with
      | true =>
        clear h
        go_enter Try.func40, Try.ntmps40
        go_wp2
        go_ret2
        exact ⟨rfl, rfl⟩
      | false =>
        have h4 : decide ((281474976710656 : Int) - (base : Int) < (size : Int)) = true := by
          simp at h1 h2 h3 ⊢
          omega
        have hb : (base : Int) ≤ 281474976710656 := by simpa using h3
        clear h
        go_enter Try.func40, Try.ntmps40
        go_wp2
        go_ret2
        exact ⟨rfl, rfl⟩

set_option maxHeartbeats 1000000 in
theorem rMap2_perm (w : World) (A : Option Addr) (k cap : Nat) (base size : Nat) (perm : Int) (h : ¬ (base % 4096 ≠ 0 ∨ size = 0 ∨ 281474976710656 < base ∨ 281474976710656 - base < size)) (ha : allowedB perm = false) :
    Calls Try.prog 40 #[.slice A k cap, .int .u64 base, .int .i64 perm, .int .u64 size] w fun e w' => e = .returned (.tuple #[.slice A k cap, .int .i64 21]) ∧ w = w' := by
  obtain ⟨t1, t2, t3, t4, t5, t6⟩ := map_tests h
  clear h
  go_enter Try.func40, Try.ntmps40
  go_wp2_with (go_at_call 78; refine (rPerm2_all _ _).mono ?_; rw [ha]; rintro e w' ⟨rfl, rfl⟩)
  go_ret2
  exact ⟨rfl, rfl⟩

set_option maxHeartbeats 1000000 in
theorem rMap2_many (w : World) (A : Option Addr) (k cap : Nat) (hk : k ≤ 4096) (base size : Nat) (perm : Int) (h : ¬ (base % 4096 ≠ 0 ∨ size = 0 ∨ 281474976710656 < base ∨ 281474976710656 - base < size)) (ha : allowedB perm = true)
    (hn : 4096 - k < mapN size) :
    Calls Try.prog 40 #[.slice A k cap, .int .u64 base, .int .i64 perm, .int .u64 size] w fun e w' => e = .returned (.tuple #[.slice A k cap, .int .i64 20]) ∧ w = w' := by
  obtain ⟨t1, t2, t3, t4, t5, t6⟩ := map_tests h
  have hd : decide ((4096 : Int) - (k : Int) < ((size : Int) + 4096 - 1) / 4096) = true := by unfold mapN at hn; simp; omega
  clear h hn
  go_enter Try.func40, Try.ntmps40
  go_wp2_with (go_at_call 78; refine (rPerm2_all _ _).mono ?_; rw [ha]; rintro e w' ⟨rfl, rfl⟩)
  go_ret2
  exact ⟨rfl, rfl⟩

theorem map_fresh {w wr w4 : World} {b base N : Nat} {perm : Int} {v4 y0 y1 y2 : Value} {qs q4 : List PgIn} (hB : Below w.heap.size w wr) (hjl : b < wr.heap.size) {i : Nat} (p0 : wr.cell? ⟨b, i, none⟩ = some y0) (p1 : wr.cell? ⟨b, i + 1, none⟩ = some y1) (p2 : wr.cell? ⟨b, i + 2, none⟩ = some y2)
    (hR4 : RefPs w4 w.heap.size wr.heap.size v4 q4) (he4 : q4.map PgIn.pg = qs.map PgIn.pg ++ fresh base perm N) (hB4 : Below wr.heap.size wr w4) (hq : qs.length + N + 1 ≤ 20000) (x : PgIn) :
    w4.cell? ⟨b, i, none⟩ = some y0 ∧ w4.cell? ⟨b, i + 1, none⟩ = some y1 ∧ w4.cell? ⟨b, i + 2, none⟩ = some y2 ∧ RefPs w4 w.heap.size w.heap.size v4 q4 ∧ Below w.heap.size w w4 ∧ q4.length + 1 ≤ 100000 ∧
      Below w4.heap.size w4 (w4.alloc (.cells #[.int .u64 (x.base : Int), .int .i64 x.perm, .slice x.A x.data.length x.cap] 71)) := by
  refine ⟨(hB4.cell (p := ⟨b, i, none⟩) hjl).trans p0, (hB4.cell (p := ⟨b, i + 1, none⟩) hjl).trans p1, (hB4.cell (p := ⟨b, i + 2, none⟩) hjl).trans p2, hR4.base (Nat.le_refl _) hB.size, hB.trans (hB4.mono hB.size), ?_, (Below.refl _ _).alloc (Nat.le_refl _) _⟩
  have h1 := congrArg List.length he4
  simp [fresh] at h1
  omega

set_option maxRecDepth 20000 in
set_option maxHeartbeats 4000000 in
theorem rMap2_ok (w : World) (A : Option Addr) (k cap : Nat) (ps : List PgIn) (hP : PgsAt w.heap.size w A ps) (hpk : ps.length = k) (hk : k ≤ 4096) (hok : PsOK (ps.map PgIn.pg)) (base size : Nat) (perm : Int)
    (h : ¬ (base % 4096 ≠ 0 ∨ size = 0 ∨ 281474976710656 < base ∨ 281474976710656 - base < size)) (ha : allowedB perm = true) (hn : ¬ 4096 - k < mapN size) :
    Calls Try.prog 40 #[.slice A k cap, .int .u64 base, .int .i64 perm, .int .u64 size] w fun e w' => Below w.heap.size w w' ∧
      (((∃ p ∈ ps.map PgIn.pg, inMap base (mapN size) p) ∧ e = .returned (.tuple #[.slice A k cap, .int .i64 20])) ∨
      ((∀ p ∈ ps.map PgIn.pg, ¬ inMap base (mapN size) p) ∧ ∃ A' c' qs, e = .returned (.tuple #[.slice A' qs.length c', .int .i64 0]) ∧ PgsAt w'.heap.size w' A' qs ∧ qs.map PgIn.pg = refMap (ps.map PgIn.pg) base perm (mapN size))) := by
  obtain ⟨t1, t2, t3, t4, t5, t6⟩ := map_tests h
  have hN0 : ((size : Int) + 4096 - 1) / 4096 = (mapN size : Int) := by unfold mapN; omega
  have hN1 : mapN size ≤ 4096 := by omega
  have hN2 : base + mapN size * 4096 ≤ 281474976714752 := by unfold mapN; omega
  have hN3 : 1 ≤ mapN size := by unfold mapN; omega
  have hN4 : k + mapN size ≤ 4096 := by omega
  have hba : base ≤ 281474976710656 := by omega
  have hd : decide ((4096 : Int) - (k : Int) < ((size : Int) + 4096 - 1) / 4096) = false := by unfold mapN at hn; simp; omega
  generalize mapN size = N at *
  have HN0 := Lib.hid hN0
  have HN := Lib.hid (And.intro hpk hok)
  have hal := ahead_le (ps.map PgIn.pg) base
  rw [List.length_map, hpk] at hal
  obtain ⟨m, hm⟩ : ∃ m, m = aheadP (ps.map PgIn.pg) base := ⟨_, rfl⟩
  rw [← hm] at hal
  have HM := Lib.hid hm
  have ew : IntKind.u64.wrap ((N : Int) * 4096) = (N : Int) * 4096 := by rw [IntKind.wrap_u64]; omega
  clear h hn hN0 hpk hok hm
  go_enter Try.func40, Try.ntmps40
  go_wp2_with (go_at_call 78; refine (rPerm2_all _ _).mono ?_; rw [ha]; rintro e w' ⟨rfl, rfl⟩)
  rw [HN0.out]
  go_loopw [11, 12, 13] (fun out dn i wr => ∃ (j : Nat) (qs : List PgIn), j ≤ k ∧ i = .int .i64 j ∧ dn = .bool (decide (m < j)) ∧ RefPs wr w.heap.size w.heap.size out qs ∧ qs.map PgIn.pg = mapTo (ps.map PgIn.pg) base perm N j ∧ (∀ p ∈ (ps.map PgIn.pg).take j, ¬ inMap base N p) ∧ Below w.heap.size w wr) (fun _ _ i _ => k - (intOf i).toNat)
  case atStart => exact ⟨0, [], by omega, rfl, rfl, .nil _ _, by simp [mapTo], by simp, Below.refl _ _⟩
  case round =>
    obtain ⟨j, qs, hj, rfl, rfl, hR, hqs, hno, hB⟩ := hrel
    have HQ := Lib.hid (And.intro hqs hno)
    clear hqs hno
    by_cases hlt : j < k
    · have hd3 : decide ((j : Int) < (k : Int)) = true := decide_eq_true (by omega)
      have hji : (j : Int) < (k : Int) := by omega
      have hj1 : j < ps.length := by rw [HN.out.1]; exact hlt
      obtain ⟨b, o, rfl, hb, p0, p1, p2⟩ := (hP.below hB).cells j hj1
      obtain ⟨x, hx⟩ : ∃ x, x = ps[j] := ⟨_, rfl⟩
      rw [← hx] at p0 p1 p2
      have hxm : x ∈ ps := by rw [hx]; exact List.getElem_mem _
      have hxs := hP.small x hxm
      have hxb := hP.bytes x hxm
      have hxl : (ps.map PgIn.pg)[j]'(by rw [List.length_map]; exact hj1) = x.pg := by rw [List.getElem_map, hx]
      have hql : qs.length ≤ j + N := by
        have h1 := congrArg List.length HQ.out.1
        have h2 : (mapTo (ps.map PgIn.pg) base perm N j).length ≤ j + N := by
          unfold mapTo
          split
          · simp; omega
          · simp [fresh, HN.out.1]; omega
        rw [List.length_map] at h1
        omega
      by_cases hin : inMap base N x.pg
      · obtain ⟨g1, g2⟩ : base ≤ x.base ∧ x.base - base < N * 4096 := hin
        have f1 : decide (base ≤ x.base) = true := decide_eq_true g1
        have f2 : decide ((x.base : Int) - (base : Int) < (N : Int) * 4096) = true := decide_eq_true (by omega)
        have e2 : IntKind.u64.wrap ((x.base : Int) - (base : Int)) = (x.base : Int) - (base : Int) := by rw [IntKind.wrap_u64]; omega
        have HI := Lib.hid (show ∃ p ∈ ps.map PgIn.pg, inMap base N p from ⟨x.pg, List.mem_map.2 ⟨x, hxm, rfl⟩, ⟨g1, g2⟩⟩)
        clear hx hxl hxm hql g1 g2
        go_wp2
        go_ret2
        exact ⟨hB, .inl ⟨HI.out, rfl⟩⟩
      · have hno5 := Lib.hid (show ∀ p ∈ (ps.map PgIn.pg).take (j + 1), ¬ inMap base N p by
          intro p hp
          rw [List.take_succ_eq_append_getElem (by rw [List.length_map]; exact hj1), hxl] at hp
          rcases List.mem_append.1 hp with hp | hp
          · exact HQ.out.2 p hp
          · obtain rfl := List.mem_singleton.1 hp
            exact hin)
        have hno1 : base ≤ x.base → N * 4096 ≤ x.base - base := fun h1 => by
          rcases Nat.lt_or_ge (x.base - base) (N * 4096) with h2 | h2
          · exact absurd ⟨h1, h2⟩ hin
          · exact h2
        have hbx : j < m → x.base ≤ base := fun h1 => by
          have := ahead_lt (l := ps.map PgIn.pg) (b := base) (i := j) (by rw [← HM.out]; exact h1) (by rw [List.length_map]; exact hj1)
          rw [hxl] at this
          exact this
        have hbm : m ≤ j → base < x.base := fun h1 => by
          have hml : m < (ps.map PgIn.pg).length := by rw [List.length_map]; omega
          have h2 : base < ((ps.map PgIn.pg)[m]'hml).base := by
            have := ahead_at (l := ps.map PgIn.pg) (b := base) (by rw [← HM.out]; exact hml)
            simpa only [← HM.out] using this
          rcases Nat.lt_or_ge m j with h3 | h3
          · have := (List.pairwise_iff_getElem.1 HN.out.2.rises) m j hml (by rw [List.length_map]; exact hj1) h3
            rw [hxl] at this
            exact Nat.lt_trans h2 this
          · obtain rfl : m = j := by omega
            rw [hxl] at h2
            exact h2
        have hqp : qs.length + N + 1 ≤ 20000 := by omega
        have HXM := Lib.hid (And.intro hxm hxl)
        clear hx hxm hxl hin hql
        rcases Nat.lt_trichotomy j m with hjm | hjm | hjm
        · have h1 : x.base < base := by
            have := hbx hjm
            rcases Nat.lt_or_ge x.base base with h | h
            · exact h
            · have := hno1 h; omega
          have f1 : decide (base ≤ x.base) = false := decide_eq_false (by omega)
          have f2 : decide (base < x.base) = false := decide_eq_false (by omega)
          have f3 : decide (m < j) = false := decide_eq_false (by omega)
          have f4 := Lib.hid (show Value.bool false = Value.bool (decide (m < j + 1)) by rw [decide_eq_false (by omega)])
          have hp1 : qs.length + 1 ≤ 100000 := by omega
          clear hno1 hbx hbm
          have hba : Below wr.heap.size wr (wr.alloc (.cells #[.int .u64 (x.base : Int), .int .i64 x.perm, .slice x.A x.data.length x.cap] 71)) := (Below.refl _ _).alloc (Nat.le_refl _) _
          go_wp2_with (at_builtin; refine wpList_appQ _ rfl (.tmp 90) (.tmp 95) rfl w.heap.size w.heap.size _ qs rfl (hR.below hB.size hba) (Nat.le_trans hB.size hba.size) (Nat.le_trans hB.size hba.size) _ _ x rfl (heap_alloc_new _ _) (.inl (hxb.below (hB.trans (hba.mono hB.size)))) hxs hp1 ?ha)
          case ha =>
            intro v5 w5 hR5 hg5
            have hB5 : Below w.heap.size w w5 := (hB.trans (hba.mono hB.size)).grown hg5 (Nat.le_trans hB.size hba.size) (fun k hk => (hR.row.block hk).1)
            have HS := Lib.hid (show (qs ++ [x]).map PgIn.pg = mapTo (ps.map PgIn.pg) base perm N (j + 1) by
              rw [List.map_append, HQ.out.1, mapTo_lt (by rw [← HM.out]; exact hjm) (by rw [List.length_map]; exact hj1), HXM.out.2]; rfl)
            clear hg5 hba
            go_wp2
            go_roundw
            case rel => exact ⟨j + 1, qs ++ [x], by omega, by go_num, f4.out, hR5, HS.out, hno5.out, hB5⟩
            case measure => simp [intOf]; omega
        · have h1 : base < x.base := hbm (by omega)
          have h2 := hno1 (by omega)
          have f1 : decide (base ≤ x.base) = true := decide_eq_true (by omega)
          have f2 : decide (base < x.base) = true := decide_eq_true h1
          have f3 : decide (m < j) = false := decide_eq_false (by omega)
          have f4 := Lib.hid (show Value.bool true = Value.bool (decide (m < j + 1)) by rw [decide_eq_true (by omega)])
          have HJ := Lib.hid hjm
          clear hjm
          have f5 : decide ((x.base : Int) - (base : Int) < (N : Int) * 4096) = false := decide_eq_false (by omega)
          have e2 : IntKind.u64.wrap ((x.base : Int) - (base : Int)) = (x.base : Int) - (base : Int) := by rw [IntKind.wrap_u64]; omega
          have hpf : qs.length + N ≤ 90000 := by omega
          clear hno1 hbx hbm h2
          have hjl : b < wr.heap.size := Nat.lt_of_lt_of_le hb hB.size
          go_wp2_with (first
            | (go_at_call 79; refine (rfresh2_any wr w.heap.size w.heap.size _ qs hR hB.size base perm N _ rfl hpf hN2).mono ?_; rintro e w4 ⟨v4, q4, rfl, hR4, he4, hB4⟩; obtain ⟨z0, z1, z2, hR4', hBw, hp1, hba⟩ := map_fresh hB hjl p0 p1 p2 hR4 he4 hB4 hqp x)
            | (at_builtin; refine wpList_appQ _ rfl (.tmp 90) (.tmp 95) rfl w.heap.size w.heap.size _ q4 rfl (hR4'.below hBw.size hba) (Nat.le_trans hBw.size hba.size) (Nat.le_trans hBw.size hba.size) _ _ x rfl (heap_alloc_new _ _) (.inl (hxb.below (hBw.trans (hba.mono hBw.size)))) hxs hp1 ?ha))
          case ha =>
            intro v5 w5 hR5 hg5
            have hB5 : Below w.heap.size w w5 := (hBw.trans (hba.mono hBw.size)).grown hg5 (Nat.le_trans hBw.size hba.size) (fun k hk => (hR4'.row.block hk).1)
            have HS := Lib.hid (show (q4 ++ [x]).map PgIn.pg = mapTo (ps.map PgIn.pg) base perm N (j + 1) by
              have hal2 := HJ.out
              subst hal2
              have hml : aheadP (ps.map PgIn.pg) base < (ps.map PgIn.pg).length := by rw [← HM.out, List.length_map]; exact hj1
              have e1 := mapTo_at (l := ps.map PgIn.pg) (b := base) (perm := perm) (n := N) hml
              have e2 : (ps.map PgIn.pg)[aheadP (ps.map PgIn.pg) base]'hml = x.pg := by
                have := HXM.out.2
                simpa only [← HM.out] using this
              rw [e2, ← HM.out] at e1
              rw [List.map_append, he4, HQ.out.1, e1]; rfl)
            clear hg5 hba
            go_wp2
            go_roundw
            case rel => exact ⟨j + 1, q4 ++ [x], by omega, by go_num, f4.out, hR5, HS.out, hno5.out, hB5⟩
            case measure => simp [intOf]; omega
        · have h1 : base < x.base := hbm (by omega)
          have h2 := hno1 (by omega)
          have f1 : decide (base ≤ x.base) = true := decide_eq_true (by omega)
          have f3 : decide (m < j) = true := decide_eq_true (by omega)
          have f4 := Lib.hid (show Value.bool true = Value.bool (decide (m < j + 1)) by rw [decide_eq_true (by omega)])
          have f5 : decide ((x.base : Int) - (base : Int) < (N : Int) * 4096) = false := decide_eq_false (by omega)
          have e2 : IntKind.u64.wrap ((x.base : Int) - (base : Int)) = (x.base : Int) - (base : Int) := by rw [IntKind.wrap_u64]; omega
          have hp1 : qs.length + 1 ≤ 100000 := by omega
          clear hno1 hbx hbm h2
          have hba : Below wr.heap.size wr (wr.alloc (.cells #[.int .u64 (x.base : Int), .int .i64 x.perm, .slice x.A x.data.length x.cap] 71)) := (Below.refl _ _).alloc (Nat.le_refl _) _
          go_wp2_with (at_builtin; refine wpList_appQ _ rfl (.tmp 90) (.tmp 95) rfl w.heap.size w.heap.size _ qs rfl (hR.below hB.size hba) (Nat.le_trans hB.size hba.size) (Nat.le_trans hB.size hba.size) _ _ x rfl (heap_alloc_new _ _) (.inl (hxb.below (hB.trans (hba.mono hB.size)))) hxs hp1 ?ha)
          case ha =>
            intro v5 w5 hR5 hg5
            have hB5 : Below w.heap.size w w5 := (hB.trans (hba.mono hB.size)).grown hg5 (Nat.le_trans hB.size hba.size) (fun k hk => (hR.row.block hk).1)
            have HS := Lib.hid (show (qs ++ [x]).map PgIn.pg = mapTo (ps.map PgIn.pg) base perm N (j + 1) by
              rw [List.map_append, HQ.out.1, mapTo_gt (by rw [← HM.out]; exact hjm) (by rw [List.length_map]; exact hj1), HXM.out.2]; rfl)
            clear hg5 hba
            go_wp2
            go_roundw
            case rel => exact ⟨j + 1, qs ++ [x], by omega, by go_num, f4.out, hR5, HS.out, hno5.out, hB5⟩
            case measure => simp [intOf]; omega
    · have hd3 : decide ((j : Int) < (k : Int)) = false := decide_eq_false (by omega)
      have hjk : j = k := by omega
      have HK := Lib.hid hjk
      clear hjk
      have hnoA := Lib.hid (show ∀ p ∈ ps.map PgIn.pg, ¬ inMap base N p by
        have h1 := HQ.out.2
        rw [List.take_of_length_le (by rw [List.length_map, HN.out.1, HK.out]; exact Nat.le_refl _)] at h1
        exact h1)
      have hql : qs.length + N ≤ 90000 := by
        have h1 := congrArg List.length HQ.out.1
        have h2 : (mapTo (ps.map PgIn.pg) base perm N j).length ≤ j + N := by
          unfold mapTo
          split
          · simp; omega
          · simp [fresh, HN.out.1]; omega
        rw [List.length_map] at h1
        omega
      by_cases hmk : m < j
      · have f3 : decide (m < j) = true := decide_eq_true hmk
        have HS := Lib.hid (show qs.map PgIn.pg = refMap (ps.map PgIn.pg) base perm N by
          rw [mapTo_all, if_neg (by rw [← HM.out, List.length_map, HN.out.1, ← HK.out]; omega), List.length_map, HN.out.1, ← HK.out]
          exact HQ.out.1)
        obtain ⟨A', c', rfl, hP'⟩ := hR.pgs hB.size (by omega)
        go_wp2
        go_ret2
        exact ⟨hB, .inr ⟨hnoA.out, A', c', qs, rfl, hP', HS.out⟩⟩
      · have f3 : decide (m < j) = false := decide_eq_false hmk
        go_wp2_with (go_at_call 79; refine (rfresh2_any wr w.heap.size w.heap.size _ qs hR hB.size base perm N _ rfl hql hN2).mono ?_; rintro e w4 ⟨v4, q4, rfl, hR4, he4, hB4⟩)
        have HS := Lib.hid (show q4.map PgIn.pg = refMap (ps.map PgIn.pg) base perm N by
          rw [he4, mapTo_all, if_pos (by rw [← HM.out, List.length_map, HN.out.1, ← HK.out]; omega), List.length_map, HN.out.1, ← HK.out, HQ.out.1])
        have hBw := hB.trans (hB4.mono hB.size)
        obtain ⟨A', c', rfl, hP'⟩ := hR4.pgs hBw.size (by have h1 := congrArg List.length he4; simp [fresh] at h1; omega)
        go_wp2
        go_ret2
        exact ⟨hBw, .inr ⟨hnoA.out, A', c', q4, rfl, hP', HS.out⟩⟩
end Go.Proofs
