/- patinalaw04.ElfMemory: the walk. -/
import Derived.Test.YtkgnodlhdilmoaaLoadE
import Derived.Test.YtkgnodlhdilmoaaPeek
import Derived.Test.YtkgnodlhdilmoaaElfLoadQ
namespace Go.Proofs
open Go Go.RowKit Go.Pat

theorem Peek_int (w : World) (p mb : Nat) (fs : List Fr) (hM : MemAt w p mb fs) (at_ n : Nat) (y z : Int) (hy : y = (at_ : Int)) (hz : z = (n : Int)) (hat : at_ < 18446744073709551616) (hn : n ≤ 65536) :
    Calls Try.prog 38 #[.pointer (some ⟨p, 0, none⟩), .int .u64 y, .int .i64 z] w fun e w' =>
      (askedM fs at_ n 0 = 0 ∧ ∃ v, e = .returned (.tuple #[v, .int .i64 0]) ∧ OwnB w' w.heap.size v (peekL fs at_ n) ∧ Below w.heap.size w w') ∨
      (askedM fs at_ n 0 ≠ 0 ∧ e = .returned (.tuple #[.slice none 0 0, .int .i64 (askedM fs at_ n 0)]) ∧ Below w.heap.size w w') := by
  subst hy hz
  exact Peek_any w p mb fs hM at_ n hat hn
theorem From_int (w : World) (A : Option Addr) (cap n : Nat) (ps : List PgIn) (hP : PgsAt w.heap.size w A ps) (hn : ps.length = n) : Calls Try.prog 18 #[.slice A n cap] w (FromPost w ps) := by
  subst hn
  exact From_all w A cap ps hP

set_option maxRecDepth 20000 in
set_option maxHeartbeats 16000000 in
theorem ElfMemory_any (w : World) (A : Option Addr) (cap en n : Nat) (ss : List Sg) (hP : SgsAt w.heap.size w A ss) (hn : ss.length = n) (hen : en < 18446744073709551616) :
    Calls Try.prog 10 #[.agg #[.int .u64 en, .slice A n cap]] w fun e w' => e = .returned (.bool true) ∧ Below w.heap.size w w' := by
  have hb0 : Below w.heap.size w (w.alloc (.cells #[.int .u64 en, .slice A n cap] 38)) := (Below.refl _ _).alloc (Nat.le_refl _) _
  have hfew := hP.few
  rw [hn] at hfew
  have HN := Lib.hid hn
  clear hn
  have hbk : ∀ w', Below w.heap.size w w' → SgsAt w'.heap.size w' A ss := fun w' h => (hP.below h).mono h.size
  have HK := Lib.hid hbk
  clear hbk
  go_enter Try.func10, Try.ntmps10
  go_wp2_with fail
  refine Calls.mono (eLoad_any _ A cap en n ss (HK.out _ hb0) HN.out hen) ?_
  intro e w1 hL
  obtain ⟨en1, er1, n1, c1, A1, ps1, hq1, rfl, hp1, hn1, hm1, hB1⟩ := loadE_open hL
  clear hL
  rw [World.size_alloc] at hB1
  have hi1 := box_one w _ _ hB1
  have hBa : Below w.heap.size w w1 := hb0.trans (hB1.mono (Nat.le_succ _))
  by_cases hc : checkE en (ss.map Sg.d) = 0
  · have hq : loadQ en (ss.map Sg.d) = (en, 0, loadT (ss.map Sg.d) (ss.map Sg.d).length) := by unfold loadQ; rw [if_pos hc]
    have hq2 := hq1.symm.trans hq
    simp only [Prod.mk.injEq] at hq2
    obtain ⟨rfl, rfl, hpp⟩ := hq2
    have HC := Lib.hid (And.intro hc (And.intro hpp (And.intro (check_ok hc) (load_pages hc))))
    clear hc hq hq1 hpp
    go_wp2_with (refine wpList_store_row (o := ⟨none, Op.store 60 (.tmp 3) (.tmp 18), _, _, _, _⟩) rfl 60 (.tmp 3) (.tmp 18) rfl w1.heap.size (cpuA en1) rfl rfl 60 _ (heap_alloc_new w1 _) Try_sizeCpu rfl (cpu_one en1) ?_
                 generalize hW2 : World.setRow _ _ _ = W2
                 have hBw2 : Below w1.heap.size w1 W2 := by rw [← hW2]; exact below_setRow ((Below.refl _ _).alloc (Nat.le_refl _) _) (Nat.le_refl _) _
                 clear hW2
                 have hi2 := (hBw2.block _ (lt_of_block hi1)).trans hi1)
    have hBb : Below w.heap.size w W2 := hBa.trans (hBw2.mono hBa.size)
    have hp2 := (hp1.below hBw2).mono hBw2.size
    refine Calls.mono (From_int W2 A1 c1 n1 ps1 hp2 hn1) ?_
    intro e w3 hFr
    rcases hFr with ⟨-, p, mb, fs, rfl, hfs, hM, -, -, -, hB3⟩ | ⟨hbad, -, -⟩
    · have hfs2 := hfs.trans HC.out.2.1
      have HFS := Lib.hid hfs2
      clear hfs hfs2
      have hi3 := (hB3.block _ (lt_of_block hi2)).trans hi2
      have hp3 := (hp2.below hB3).mono hB3.size
      have hBc : Below w.heap.size w w3 := hBb.trans (hB3.mono hBb.size)
      go_wp2_with fail
      go_loopw [8] (fun i wr => ∃ j : Nat, j ≤ n1 ∧ i = .int .i64 j ∧ Below w3.heap.size w3 wr) (fun i _ => n1 - (intOf i).toNat)
      case atStart => exact ⟨0, by omega, rfl, Below.refl _ _⟩
      case round =>
        obtain ⟨j, hj, rfl, hB⟩ := hrel
        by_cases hlt : j < n1
        · have hd3 : decide ((j : Int) < (n1 : Int)) = true := decide_eq_true (by omega)
          have hji : (j : Int) < (n1 : Int) := by omega
          have hjp : j < ps1.length := by omega
          obtain ⟨b, o, hA, hb, q0, q1, q2⟩ := (hp3.below hB).cells j hjp
          have hperm : (bits BinOp.and .i64 ps1[j].perm 3 == 3) = false := by
            have hm : ps1[j].pg ∈ loadT (ss.map Sg.d) (ss.map Sg.d).length := by rw [← HC.out.2.1]; exact List.mem_map.2 ⟨ps1[j], List.getElem_mem _, rfl⟩
            exact perm_and (HC.out.2.2.2.1 _ hm).perm
          obtain ⟨x, hx⟩ : ∃ x, x = ps1[j].perm := ⟨_, rfl⟩
          rw [← hx] at q1 hperm
          subst hA
          clear hx q0 q2
          go_wp2
          go_roundw
          case rel => exact ⟨j + 1, by omega, by go_num, hB⟩
          case measure => simp [intOf]; omega
        · have hd3 : decide ((j : Int) < (n1 : Int)) = false := decide_eq_false (by omega)
          obtain rfl : j = n1 := by omega
          have hir := (hB.block _ (lt_of_block hi3)).trans hi3
          have hMr := hM.below hM.lt hB
          have hBr := hBc.trans (hB.mono hBc.size)
          obtain ⟨w4, hw4⟩ : ∃ w4, w4 = wr := ⟨_, rfl⟩
          subst hw4
          have j14 := obj_cell hir 1
          clear hM hi3 hB hp3
          go_wp2_with fail
          go_loopw [9] (fun i wr => ∃ j : Nat, j ≤ n ∧ i = .int .i64 j ∧ Below w4.heap.size w4 wr) (fun i _ => n - (intOf i).toNat)
          case atStart => exact ⟨0, by omega, rfl, Below.refl _ _⟩
          case round =>
            obtain ⟨j2, hj2, rfl, hB⟩ := hrel
            have hir5 := (hB.block _ (lt_of_block hir)).trans hir
            have jr := obj_cell hir5 1
            have hBr5 := hBr.trans (hB.mono hBr.size)
            have hPj := HK.out _ hBr5
            by_cases hlt2 : j2 < n
            · have hd4 : decide ((j2 : Int) < (n : Int)) = true := decide_eq_true (by omega)
              have hji : (j2 : Int) < (n : Int) := by omega
              have hj1 : j2 < ss.length := by rw [HN.out]; exact hlt2
              obtain ⟨b, o, hA, hb, p0, p1, p2, p3⟩ := hPj.cells j2 hj1
              subst hA
              obtain ⟨x, hx⟩ : ∃ x, x = ss[j2] := ⟨_, rfl⟩
              rw [← hx] at p0 p1 p2 p3
              have hxm : x ∈ ss := by rw [hx]; exact List.getElem_mem _
              have hxc := hP.caps x hxm
              have hj1d : j2 < (ss.map Sg.d).length := by rw [List.length_map]; exact hj1
              have hFd : (ss.map Sg.d)[j2] = x.d := by rw [hx, List.getElem_map]
              have hF := okT_at HC.out.2.2.1.ok j2 hj1d hj1d
              rw [hFd] at hF
              have hsz : x.size ≤ 16777216 := hF.most
              have htop : x.addr + x.size ≤ 281474976710656 := hF.top
              have hfit : x.data.length ≤ x.size := hF.fits
              have hask : ∀ av nn, av + nn ≤ x.data.length → 0 < nn → askedM fs (x.addr + av) nn 0 = 0 := fun av nn h1 h2 => by
                have := load_asked HC.out.1 HFS.out j2 hj1d av nn (by rw [hFd]; exact h1) h2
                rw [hFd] at this; exact this
              have hpk : ∀ av nn, av + nn ≤ x.data.length → peekL fs (x.addr + av) nn = (x.data.drop av).take nn := fun av nn h1 => by
                have := load_peek HC.out.1 HFS.out j2 hj1d av nn (by rw [hFd]; exact h1)
                rw [hFd] at this; exact this
              have HX := Lib.hid (And.intro hask (And.intro hpk hxm))
              clear hx hxm hF hask hpk hFd
              obtain ⟨sb, hsb⟩ : ∃ sb, sb = wr.heap.size := ⟨_, rfl⟩
              have hseg := heap_alloc_new wr (.cells #[.int .u64 (x.addr : Int), .int .i64 x.perm, .slice x.A x.data.length x.cap, .int .u64 (x.size : Int)] 73)
              have hBs : Below w4.heap.size w4 (wr.alloc (.cells #[.int .u64 (x.addr : Int), .int .i64 x.perm, .slice x.A x.data.length x.cap, .int .u64 (x.size : Int)] 73)) := hB.alloc hB.size _
              rw [← hsb] at hseg
              have HSB := Lib.hid hsb
              clear hsb
              go_wp2_with fail
              rw [← HSB.out]
              clear HSB jr hir5 hB hBr5 p0 p1 p2 p3 hPj
              go_loopw [11] (fun a wr => ∃ av : Nat, a = .int .i64 (av : Nat) ∧ av ≤ x.data.length + 65536 ∧ wr.heap[sb]? = some (.cells #[.int .u64 (x.addr : Int), .int .i64 x.perm, .slice x.A x.data.length x.cap, .int .u64 (x.size : Int)] 73 (0, 0)) ∧ Below w4.heap.size w4 wr) (fun a _ => x.data.length + 65536 - (intOf a).toNat)
              case atStart => exact ⟨0, rfl, by omega, hseg, hBs⟩
              case round =>
                clear hseg hBs
                obtain ⟨av, rfl, hav, hseg, hB⟩ := hrel
                have hBr6 := hBr.trans (hB.mono hBr.size)
                have hM6 := hMr.below hMr.lt hB
                have s0 := obj_cell hseg 0
                have s2 := obj_cell hseg 2
                by_cases hin : av < x.data.length
                · have hd5 : decide ((av : Int) < (x.data.length : Int)) = true := decide_eq_true (by omega)
                  have hsub : (x.data.length : Int) - (av : Int) = ((x.data.length - av : Nat) : Int) := by omega
                  obtain ⟨df, hdf⟩ : ∃ df, df = x.data.length - av := ⟨_, rfl⟩
                  rw [← hdf] at hsub
                  have hdf2 : av + df = x.data.length := by omega
                  clear hdf
                  have hbs6 := (hP.bytes x HX.out.2.2).below hBr6
                  obtain ⟨xb, xo, hxa, _⟩ := hbs6.form (by intro h; have := congrArg List.length h; rw [bcells_length] at this; simp at this; rw [this] at hin; simp at hin)
                  rw [hxa] at s2 hbs6 hseg
                  have HXA := Lib.hid hxa
                  clear hxa
                  have hne : ¬ av = x.cap := by omega
                  have hne2 : ¬ x.cap = av := by omega
                  by_cases hbig : 65536 < df
                  · have hd6 : decide ((65536 : Int) < (df : Int)) = true := decide_eq_true (by omega)
                    obtain ⟨nn, hnn65⟩ : ∃ nn : Nat, nn = 65536 := ⟨_, rfl⟩
                    have HNN := Lib.hid hnn65
                    clear hnn65
                    have hnn : av + nn ≤ x.data.length := by have := HNN.out; omega
                    have hn65 : nn ≤ 65536 := by have := HNN.out; omega
                    have hn0 : 0 < nn := by have := HNN.out; omega
                    have hfl : (av : Int) ≤ ((av : Int) + 65536) := by have := HNN.out; omega
                    have hfc : ((av : Int) + 65536) ≤ (x.cap : Int) := by have := HNN.out; omega
                    have htn : ((av : Int) + 65536).toNat = av + 65536 := by have := HNN.out; omega
                    have hfc2 : ((av : Int) + 65536).toNat ≤ x.cap := by have := HNN.out; omega
                    clear hbig
                    go_wp2_with fail
                    refine Calls.mono (Peek_int wr p mb fs hM6 (x.addr + av) nn _ _ (by have := HNN.out; omega) (by rw [HNN.out]; rfl) (by have := HNN.out; omega) hn65) ?_
                    intro e w7 hPk
                    rcases hPk with ⟨-, v, rfl, hown, hB7⟩ | ⟨hbad, -, -⟩
                    · rw [HX.out.2.1 av nn hnn] at hown
                      obtain ⟨A7, c7, rfl, hb7⟩ := hown.form
                      have hl7 : ((x.data.drop av).take nn).length = nn := by rw [List.length_take, List.length_drop]; omega
                      rw [hl7] at hown ⊢
                      have hseg7 := (hB7.block _ (lt_of_block hseg)).trans hseg
                      have hBn : Below w4.heap.size w4 w7 := hB.trans (hB7.mono hB.size)
                      have hbs7 := hbs6.below ((hB7.mono hBr6.size))
                      have t0 := obj_cell hseg7 0
                      have t2 := obj_cell hseg7 2
                      clear s0 s2 hseg hown
                      go_wp2_with fail
                      refine Calls.mono (pBytes_any w7 A7 (some ⟨xb, xo + av, none⟩) _ _ c7 _ _ _ ((x.data.drop av).take nn) ((x.data.drop av).take nn) hb7 (Bs.cut hbs7 av nn) hl7 (hl7.trans (by have := HNN.out; omega))) ?_
                      rintro e w8 ⟨rfl, rfl⟩
                      rw [show (((x.data.drop av).take nn) == ((x.data.drop av).take nn)) = true by simp]
                      clear hb7 hbs7 hl7
                      go_wp2
                      go_roundw
                      case rel => exact ⟨av + 65536, by go_num, by have := HNN.out; omega, by rw [HXA.out]; exact hseg7, hBn⟩
                      case measure => simp [intOf]; omega
                    · exact absurd (HX.out.1 av nn hnn hn0) hbad
                  · have hd6 : decide ((65536 : Int) < (df : Int)) = false := decide_eq_false (by omega)
                    have hnn : av + df ≤ x.data.length := by omega
                    have hn65 : df ≤ 65536 := by omega
                    have hn0 : 0 < df := by omega
                    have hfl : (av : Int) ≤ ((av : Int) + (df : Int)) := by omega
                    have hfc : ((av : Int) + (df : Int)) ≤ (x.cap : Int) := by omega
                    have htn : ((av : Int) + (df : Int)).toNat = av + df := by omega
                    have hfc2 : ((av : Int) + (df : Int)).toNat ≤ x.cap := by omega
                    clear hbig
                    go_wp2_with fail
                    refine Calls.mono (Peek_int wr p mb fs hM6 (x.addr + av) df _ _ (by omega) (by first | rfl | omega | simp) (by omega) hn65) ?_
                    intro e w7 hPk
                    rcases hPk with ⟨-, v, rfl, hown, hB7⟩ | ⟨hbad, -, -⟩
                    · rw [HX.out.2.1 av df hnn] at hown
                      obtain ⟨A7, c7, rfl, hb7⟩ := hown.form
                      have hl7 : ((x.data.drop av).take df).length = df := by rw [List.length_take, List.length_drop]; omega
                      rw [hl7] at hown ⊢
                      have hseg7 := (hB7.block _ (lt_of_block hseg)).trans hseg
                      have hBn : Below w4.heap.size w4 w7 := hB.trans (hB7.mono hB.size)
                      have hbs7 := hbs6.below ((hB7.mono hBr6.size))
                      have t0 := obj_cell hseg7 0
                      have t2 := obj_cell hseg7 2
                      clear s0 s2 hseg hown
                      go_wp2_with fail
                      refine Calls.mono (pBytes_any w7 A7 (some ⟨xb, xo + av, none⟩) _ _ c7 _ _ _ ((x.data.drop av).take df) ((x.data.drop av).take df) hb7 (Bs.cut hbs7 av df) hl7 (hl7.trans (by omega))) ?_
                      rintro e w8 ⟨rfl, rfl⟩
                      rw [show (((x.data.drop av).take df) == ((x.data.drop av).take df)) = true by simp]
                      clear hb7 hbs7 hl7
                      go_wp2
                      go_roundw
                      case rel => exact ⟨av + 65536, by go_num, by omega, by rw [HXA.out]; exact hseg7, hBn⟩
                      case measure => simp [intOf]; omega
                    · exact absurd (HX.out.1 av df hnn hn0) hbad
                · have hd5 : decide ((av : Int) < (x.data.length : Int)) = false := decide_eq_false (by omega)
                  go_wp2
                  go_roundw
                  case rel => exact ⟨j2 + 1, by omega, by go_num, hB⟩
                  case measure => simp [intOf]; omega
            · have hd4 : decide ((j2 : Int) < (n : Int)) = false := decide_eq_false (by omega)
              obtain rfl : j2 = n := by omega
              go_wp2_with fail
              refine Calls.mono (speaks4_true _) ?_
              rintro e w9 ⟨rfl, hB9⟩
              go_wp2
              go_ret
              exact ⟨rfl, hBr5.trans (hB9.mono hBr5.size)⟩
    · exact absurd (by rw [HC.out.2.1]; exact load_from HC.out.1) hbad
  · have hq : loadQ en (ss.map Sg.d) = (0, 40, []) := by unfold loadQ; rw [if_neg hc]
    have hq2 := hq1.symm.trans hq
    simp only [Prod.mk.injEq] at hq2
    obtain ⟨rfl, rfl, hpp⟩ := hq2
    have hn0 : n1 = 0 := by rw [← hn1, ← List.length_map (f := PgIn.pg), hpp]; rfl
    subst hn0
    clear hc hq hq1 hpp
    go_wp2_with (refine wpList_store_row (o := ⟨none, Op.store 60 (.tmp 3) (.tmp 18), _, _, _, _⟩) rfl 60 (.tmp 3) (.tmp 18) rfl w1.heap.size (cpuA 0) rfl rfl 60 _ (heap_alloc_new w1 _) Try_sizeCpu rfl (cpu_one 0) ?_
                 generalize hW2 : World.setRow _ _ _ = W2
                 have hBw2 : Below w1.heap.size w1 W2 := by rw [← hW2]; exact below_setRow ((Below.refl _ _).alloc (Nat.le_refl _) _) (Nat.le_refl _) _
                 clear hW2)
    have hBb : Below w.heap.size w W2 := hBa.trans (hBw2.mono hBa.size)
    refine Calls.mono (speaks4_true _) ?_
    rintro e w9 ⟨rfl, hB9⟩
    go_wp2
    go_ret
    exact ⟨rfl, hBb.trans (hB9.mono hBb.size)⟩
end Go.Proofs
