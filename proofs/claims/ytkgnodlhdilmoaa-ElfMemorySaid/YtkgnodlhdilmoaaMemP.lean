/- (*Mem).Map. -/
import Derived.Test.YtkgnodlhdilmoaaMemM
namespace Go.Pat
open Go Go.RowKit

def mapN (size : Nat) : Nat := (size + 4095) / 4096
def anyThere (fs : List Fr) (base : Nat) : Nat → Bool
  | 0 => false
  | k + 1 => anyThere fs base k || (pageOf fs (base + k * 4096)).isSome
theorem anyThere_mono {fs : List Fr} {base k n : Nat} (h : anyThere fs base k = true) (hk : k ≤ n) : anyThere fs base n = true := by
  induction n with
  | zero => obtain rfl : k = 0 := by omega
            exact h
  | succ n ih =>
    by_cases e : k = n + 1
    · subst e; exact h
    · simp [anyThere, ih (by omega)]
theorem anyThere_none {fs : List Fr} {base n : Nat} (h : anyThere fs base n = false) : ∀ i, i < n → pageOf fs (base + i * 4096) = none := by
  induction n with
  | zero => intro i hi; omega
  | succ n ih =>
    simp only [anyThere, Bool.or_eq_false_iff] at h
    intro i hi
    by_cases e : i = n
    · subst e; simpa using h.2
    · exact ih h.1 i (by omega)

def mapE (fs : List Fr) (base : Nat) (perm : Int) (size : Nat) : Int :=
  if base % 4096 ≠ 0 ∨ size = 0 ∨ 281474976710656 < base ∨ 281474976710656 - base < size then 1
  else if allowedB perm = false then 21
  else if 4096 - fs.length < mapN size then 20
  else if anyThere fs base (mapN size) then 20 else 0
end Go.Pat
namespace Go.Proofs
open Go Go.RowKit Go.Pat

set_option maxHeartbeats 1000000 in
theorem Map_arg (w : World) (p : Value) (base size : Nat) (perm : Int) (hba : base < 18446744073709551616) (hsi : size < 18446744073709551616) (h : base % 4096 ≠ 0 ∨ size = 0 ∨ 281474976710656 < base ∨ 281474976710656 - base < size) :
    Calls Try.prog 39 #[p, .int .u64 base, .int .i64 perm, .int .u64 size] w fun e w' => e = .returned (.int .i64 1) ∧ w = w' := by
  cases h1 : ((base : Int) % 4096 != 0) with
  | true =>
    clear h
    go_enter Try.func39, Try.ntmps39
    go_wp2
    go_ret
    exact ⟨rfl, rfl⟩
  | false =>
    cases h2 : ((size : Int) == 0) with
    | true =>
      clear h
      go_enter Try.func39, Try.ntmps39
      go_wp2
      go_ret
      exact ⟨rfl, rfl⟩
    | false =>
      cases h3 : decide ((281474976710656 : Int) < (base : Int)) with
      | true =>
        clear h
        go_enter Try.func39, Try.ntmps39
        go_wp2
        go_ret
        exact ⟨rfl, rfl⟩
      | false =>
        have h4 : decide ((281474976710656 : Int) - (base : Int) < (size : Int)) = true := by
          simp at h1 h2 h3 ⊢
          omega
        have hb : (base : Int) ≤ 281474976710656 := by simpa using h3
        clear h
        go_enter Try.func39, Try.ntmps39
        go_wp2
        go_ret
        exact ⟨rfl, rfl⟩

/-- the four tests of Map's arguments, all passed, in the walk's words. -/
theorem map_tests {base size : Nat} (h : ¬ (base % 4096 ≠ 0 ∨ size = 0 ∨ 281474976710656 < base ∨ 281474976710656 - base < size)) :
    ((base : Int) % 4096 != 0) = false ∧ ((size : Int) == 0) = false ∧ decide ((281474976710656 : Int) < (base : Int)) = false ∧ decide ((281474976710656 : Int) - (base : Int) < (size : Int)) = false ∧ (base : Int) ≤ 281474976710656 ∧ (size : Int) ≤ 281474976710656 := by
  refine ⟨?_, ?_, ?_, ?_, by omega, by omega⟩
  · simp; omega
  · simp; omega
  · simp; omega
  · simp; omega

set_option maxHeartbeats 1000000 in
theorem Map_perm (w : World) (p : Value) (base size : Nat) (perm : Int) (h : ¬ (base % 4096 ≠ 0 ∨ size = 0 ∨ 281474976710656 < base ∨ 281474976710656 - base < size)) (ha : allowedB perm = false) :
    Calls Try.prog 39 #[p, .int .u64 base, .int .i64 perm, .int .u64 size] w fun e w' => e = .returned (.int .i64 21) ∧ w = w' := by
  obtain ⟨t1, t2, t3, t4, t5, t6⟩ := map_tests h
  clear h
  go_enter Try.func39, Try.ntmps39
  go_wp2_with (go_at_call 55; refine (allowed_all _ _).mono ?_; rw [ha]; rintro e w' ⟨rfl, rfl⟩)
  go_ret
  exact ⟨rfl, rfl⟩

theorem len_map (w : World) (p mb : Nat) (fs : List Fr) (hM : MemAt w p mb fs) : ∀ ty, (Builtin.len_ #[103] ty #[.map (some mb)]).run Try.prog w = .ok (.int .i64 fs.length) w := by
  intro ty
  simp [Builtin.len_, run_underlying Try.underlying103, Go.MapKept.run_getObj_map hM.map, ents_length, goInt]

set_option maxHeartbeats 1000000 in
theorem Map_many (w : World) (p mb : Nat) (fs : List Fr) (hM : MemAt w p mb fs) (hlen : fs.length ≤ 4096) (base size : Nat) (perm : Int) (h : ¬ (base % 4096 ≠ 0 ∨ size = 0 ∨ 281474976710656 < base ∨ 281474976710656 - base < size)) (ha : allowedB perm = true)
    (hn : 4096 - fs.length < mapN size) :
    Calls Try.prog 39 #[.pointer (some ⟨p, 0, none⟩), .int .u64 base, .int .i64 perm, .int .u64 size] w fun e w' => e = .returned (.int .i64 20) ∧ w = w' := by
  obtain ⟨t1, t2, t3, t4, t5, t6⟩ := map_tests h
  have hc := hM.cell
  have hl := len_map w p mb fs hM
  have hd : decide ((4096 : Int) - (fs.length : Int) < ((size : Int) + 4096 - 1) / 4096) = true := by unfold mapN at hn; simp; omega
  clear h hn
  go_enter Try.func39, Try.ntmps39
  go_wp2_with (go_at_call 55; refine (allowed_all _ _).mono ?_; rw [ha]; rintro e w' ⟨rfl, rfl⟩)
  go_ret
  exact ⟨rfl, rfl⟩

set_option maxHeartbeats 1000000 in
theorem Map_there (w : World) (p mb : Nat) (fs : List Fr) (hM : MemAt w p mb fs) (hlen : fs.length ≤ 4096) (base size : Nat) (perm : Int) (h : ¬ (base % 4096 ≠ 0 ∨ size = 0 ∨ 281474976710656 < base ∨ 281474976710656 - base < size)) (ha : allowedB perm = true)
    (hn : ¬ 4096 - fs.length < mapN size) (hth : anyThere fs base (mapN size) = true) :
    Calls Try.prog 39 #[.pointer (some ⟨p, 0, none⟩), .int .u64 base, .int .i64 perm, .int .u64 size] w fun e w' => e = .returned (.int .i64 20) ∧ Below w.heap.size w w' := by
  obtain ⟨t1, t2, t3, t4, t5, t6⟩ := map_tests h
  have hc := hM.cell
  have hl := len_map w p mb fs hM
  have hN0 : ((size : Int) + 4096 - 1) / 4096 = (mapN size : Int) := by unfold mapN; omega
  have hN1 : mapN size ≤ 4096 := by omega
  have hN2 : base + mapN size * 4096 ≤ 281474976714752 := by unfold mapN; omega
  generalize mapN size = N at *
  have hd : decide ((4096 : Int) - (fs.length : Int) < ((size : Int) + 4096 - 1) / 4096) = false := by simp; omega
  have HN0 := Lib.hid hN0
  clear h hn hN0
  go_enter Try.func39, Try.ntmps39
  go_wp2_with (go_at_call 55; refine (allowed_all _ _).mono ?_; rw [ha]; rintro e w' ⟨rfl, rfl⟩)
  rw [HN0.out]
  go_loopw [50] (fun i wr => ∃ k : Nat, k ≤ N ∧ i = .int .u64 k ∧ anyThere fs base k = false ∧ Below w.heap.size w wr) (fun i _ => N - (intOf i).toNat)
  case atStart => exact ⟨0, by omega, rfl, rfl, Below.refl _ _⟩
  case round =>
    obtain ⟨k, hk, rfl, hno, hB⟩ := hrel
    have HT := Lib.hid hth
    by_cases hlt : k < N
    · have hd3 : decide ((k : Int) < (N : Int)) = true := by simp; omega
      have E1 := Lib.hid (show (base : Int) + (k : Int) * 4096 = ((base + k * 4096 : Nat) : Int) by omega)
      cases hf : (pageOf fs (base + k * 4096)).isSome with
      | true =>
        clear hno hth
        go_wp2_with (go_at_call 77; rw [E1.out]; refine (there_any _ p mb fs (hM.below hM.lt hB) (base + k * 4096) (by omega)).mono ?_; rw [hf]; rintro e w' ⟨rfl, hb⟩)
        go_ret
        exact ⟨rfl, hB.trans (hb.mono hB.size)⟩
      | false =>
        have hn2 : anyThere fs base (k + 1) = false := by simp only [anyThere, hno, hf, Bool.or_false]
        have HN := Lib.hid hn2
        clear hno hth hn2
        go_wp2_with (go_at_call 77; rw [E1.out]; refine (there_any _ p mb fs (hM.below hM.lt hB) (base + k * 4096) (by omega)).mono ?_; rw [hf]; rintro e w' ⟨rfl, hb⟩)
        go_roundw
        case rel => exact ⟨k + 1, by omega, by go_num, HN.out, hB.trans (hb.mono hB.size)⟩
        case measure => simp [intOf]; omega
    · obtain rfl : k = N := by omega
      rw [hth] at hno
      cases hno

theorem push_fresh {w wr : World} {p mb base k : Nat} {perm : Int} {fs news : List Fr} (hMk : MemAt wr p mb (fs ++ news)) (hno : frAt (fs ++ news) (base + k * 4096) = none) (hlt2 : base + k * 4096 < 281474976710656)
    (hnew : news.map Fr.pg = fresh base perm k) (hge : ∀ f ∈ news, w.heap.size ≤ f.blk) (hKk : KeptBut (fun b => b = mb) w wr) :
    ∃ (O : Obj) (news' : List Fr), (Instr.mapUpdate 103 (.map (some mb)) (.int .u64 ((base : Int) + (k : Int) * 4096)) (.agg #[.int .i64 perm, .slice (some ⟨wr.heap.size, 0, none⟩) 4096 4096])).run Try.prog ((wr.alloc (.cells zeroPage 5)).drew) = .ok () (setObjW ((wr.alloc (.cells zeroPage 5)).drew) mb O) ∧
      news'.map Fr.pg = fresh base perm (k + 1) ∧ MemAt (setObjW ((wr.alloc (.cells zeroPage 5)).drew) mb O) p mb (fs ++ news') ∧ (∀ f ∈ news', w.heap.size ≤ f.blk) ∧ KeptBut (fun b => b = mb) w (setObjW ((wr.alloc (.cells zeroPage 5)).drew) mb O) := by
  have hB2 : Below wr.heap.size wr ((wr.alloc (.cells zeroPage 5)).drew) := ((Below.refl _ _).alloc (Nat.le_refl _) _).drew
  have hM2 := hMk.below hMk.lt hB2
  let f : Fr := ⟨base + k * 4096, perm, wr.heap.size, 4096, zeros⟩
  have hF : FrIn ((wr.alloc (.cells zeroPage 5)).drew) f := ⟨zeros_length, Nat.le_refl _, by show (4096 : Nat) ≤ maxLen; simp [maxLen], zeroPage, heap_alloc_new wr _, zeroPage_size, fun i hi => by
    have hi2 : i < 4096 := by rw [← zeros_length]; exact hi
    rw [zeroPage_at i hi2]
    show _ = some (Value.int .u8 ((zeros[i]'hi).toNat : Int))
    simp only [zeros, List.getElem_replicate]⟩
  have hup := hM2.upd (base + k * 4096) f.val hno
  have hM3 := hM2.push f hF (by
    intro hm
    obtain ⟨g, hg, hgb⟩ := List.mem_map.1 hm
    have := (hMk.pages g hg).lt
    have e : g.blk = wr.heap.size := hgb
    omega) (not_mem_of_frAt hno) hlt2
  rw [List.append_assoc] at hM3
  refine ⟨_, news ++ [f], ?_, ?_, hM3, ?_, (hKk.trans (.of_below hB2)).setObjW mb rfl _⟩
  · rw [show ((base : Int) + (k : Int) * 4096) = ((base + k * 4096 : Nat) : Int) by omega]
    exact hup
  · rw [fresh_succ, List.map_append, hnew]; rfl
  · intro g hg
    rcases List.mem_append.1 hg with hg | hg
    · exact hge g hg
    · obtain rfl := List.mem_singleton.1 hg
      exact hKk.size

set_option maxHeartbeats 2000000 in
/-- what Map leaves where it makes pages. -/
theorem Map_ok (w : World) (p mb : Nat) (fs : List Fr) (hM : MemAt w p mb fs) (hlen : fs.length ≤ 4096) (base size : Nat) (perm : Int) (h : ¬ (base % 4096 ≠ 0 ∨ size = 0 ∨ 281474976710656 < base ∨ 281474976710656 - base < size)) (ha : allowedB perm = true)
    (hn : ¬ 4096 - fs.length < mapN size) (hth : anyThere fs base (mapN size) = false) :
    Calls Try.prog 39 #[.pointer (some ⟨p, 0, none⟩), .int .u64 base, .int .i64 perm, .int .u64 size] w fun e w' => e = .returned (.int .i64 0) ∧
      ∃ news : List Fr, news.map Fr.pg = fresh base perm (mapN size) ∧ MemAt w' p mb (fs ++ news) ∧ (∀ f ∈ news, w.heap.size ≤ f.blk) ∧ KeptBut (fun b => b = mb) w w' := by
  obtain ⟨t1, t2, t3, t4, t5, t6⟩ := map_tests h
  have hc := hM.cell
  have hl := len_map w p mb fs hM
  have hN0 : ((size : Int) + 4096 - 1) / 4096 = (mapN size : Int) := by unfold mapN; omega
  have hN1 : mapN size ≤ 4096 := by omega
  have hN2 : base + mapN size * 4096 ≤ 281474976714751 := by unfold mapN; omega
  have hbm : base % 4096 = 0 := by omega
  generalize mapN size = N at *
  have hd : decide ((4096 : Int) - (fs.length : Int) < ((size : Int) + 4096 - 1) / 4096) = false := by simp; omega
  have HN0 := Lib.hid hN0
  clear h hn hN0
  go_enter Try.func39, Try.ntmps39
  go_wp2_with (go_at_call 55; refine (allowed_all _ _).mono ?_; rw [ha]; rintro e w' ⟨rfl, rfl⟩)
  rw [HN0.out]
  have hth2 := anyThere_none hth
  clear hth
  have HH := Lib.hid hth2
  clear hth2
  go_loopw [50] (fun i wr => ∃ k : Nat, k ≤ N ∧ i = .int .u64 k ∧ Below w.heap.size w wr) (fun i _ => N - (intOf i).toNat)
  case atStart => exact ⟨0, by omega, rfl, Below.refl _ _⟩
  case round =>
    obtain ⟨k, hk, rfl, hB⟩ := hrel
    by_cases hlt : k < N
    · have hd3 : decide ((k : Int) < (N : Int)) = true := by simp; omega
      have E1 := Lib.hid (show (base : Int) + (k : Int) * 4096 = ((base + k * 4096 : Nat) : Int) by omega)
      have hlt2 : base + k * 4096 < 18446744073709551616 := by clear hbm hd t4; omega
      have hf : (pageOf fs (base + k * 4096)).isSome = false := by rw [HH.out k hlt]; rfl
      go_wp2_with (go_at_call 77; rw [E1.out]; refine (there_any _ p mb fs (hM.below hM.lt hB) (base + k * 4096) hlt2).mono ?_; rw [hf]; rintro e w' ⟨rfl, hb⟩)
      go_roundw
      case rel => exact ⟨k + 1, by omega, by go_num, hB.trans (hb.mono hB.size)⟩
      case measure => simp [intOf]; omega
    · have hd3 : decide ((k : Int) < (N : Int)) = false := by simp; omega
      have hM1 := hM.below hM.lt hB
      have hK1 : KeptBut (fun b => b = mb) w wr := .of_below hB
      clear hB
      go_wp2_with fail
      obtain ⟨w0, rfl⟩ : ∃ w0 : World, w0 = wr := ⟨_, rfl⟩
      go_loopw [63] (fun i wr => ∃ (k : Nat) (news : List Fr), k ≤ N ∧ i = .int .u64 k ∧ news.map Fr.pg = fresh base perm k ∧ MemAt wr p mb (fs ++ news) ∧ (∀ f ∈ news, w.heap.size ≤ f.blk) ∧ KeptBut (fun b => b = mb) w wr) (fun i _ => N - (intOf i).toNat)
      case atStart => exact ⟨0, [], by omega, rfl, rfl, by simpa using hM1, by simp, hK1⟩
      case round =>
        obtain ⟨k, news, hk, rfl, hnew, hMk, hge, hKk⟩ := hrel
        clear hM1 hK1
        by_cases hlt : k < N
        · have hd3 : decide ((k : Int) < (N : Int)) = true := by simp; omega
          have hmk := run_makePage
          have hck := hMk.cell
          have hlt2 : base + k * 4096 < 281474976710656 := by clear hd t4; omega
          have hno : frAt (fs ++ news) (base + k * 4096) = none := by
            have h0 := HH.out k hlt
            have e2 : (base + k * 4096) / 4096 * 4096 = base + k * 4096 := by omega
            rw [pageOf, e2] at h0
            refine frAt_none_of ?_
            rw [List.map_append, List.mem_append]
            rintro (hm | hm)
            · exact not_mem_of_frAt h0 hm
            · obtain ⟨g, hg, hgb⟩ := List.mem_map.1 hm
              have : g.pg ∈ fresh base perm k := by rw [← hnew]; exact List.mem_map.2 ⟨g, hg, rfl⟩
              obtain ⟨i, hi, hib⟩ := List.mem_map.1 this
              have hi' := List.mem_range.1 hi
              have : base + i * 4096 = g.base := congrArg Pgd.base hib
              omega
          obtain ⟨O, news', hup, hN3, hM3, hge3, hK3⟩ := push_fresh hMk hno hlt2 hnew hge hKk
          have hck2 := fun o => (hMk.below hMk.lt ((Below.refl wr.heap.size wr).alloc (Nat.le_refl _) o)).cell
          have HU := Lib.hid (And.intro hN3 (And.intro hM3 (And.intro hge3 hK3)))
          clear hN3 hM3 hge3 hK3 hnew hMk hge hKk hno hbm
          go_wp2
          go_region
          go_wp2
          go_roundw
          case rel => exact ⟨k + 1, news', by omega, by go_num, HU.out.1, HU.out.2.1, HU.out.2.2.1, HU.out.2.2.2⟩
          case measure => simp [intOf]; omega
        · have hd3 : decide ((k : Int) < (N : Int)) = false := by simp; omega
          obtain rfl : k = N := by omega
          go_wp2
          go_ret
          exact ⟨rfl, news, hnew, hMk, hge, hKk⟩
end Go.Proofs
