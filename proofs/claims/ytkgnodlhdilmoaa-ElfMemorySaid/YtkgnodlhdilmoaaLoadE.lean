/- elf.Load. -/
import Derived.Test.YtkgnodlhdilmoaaLoad
import Derived.Deep.RegionHeld3
import Derived.Deep.CutRange
namespace Go.Proofs
open Go Go.RowKit Go.Pat

theorem zeroPage_eq : zeroPage = (bcells zeros).toArray := by
  unfold zeroPage zeros
  exact made_bytes 4096
theorem two_below (w : World) (a b : Obj) : Below w.heap.size w ((w.alloc a).alloc b).drew := (((Below.refl _ _).alloc (Nat.le_refl _) _).alloc (by rw [World.size_alloc]; exact Nat.le_succ _) _).drew
theorem buf_first (w : World) (b : Obj) (Z : Array Value) (hZ : Z = zeroPage) : Buf ((w.alloc (.cells Z 5)).alloc b).drew w.heap.size zeros := by
  unfold Buf
  rw [← zeroPage_eq, ← hZ]
  exact obj_alloc (heap_alloc_new w _)
theorem page_first (w : World) (a : Obj) (cs : Array Value) : ((w.alloc a).alloc (.cells cs 71)).drew.heap[w.heap.size + 1]? = some (.cells cs 71 (0, 0)) := by
  have := heap_alloc_new (w.alloc a) (.cells cs 71)
  rw [World.size_alloc] at this
  exact this
theorem buf_second (w : World) (a : Obj) (Z : Array Value) (hZ : Z = zeroPage) : Buf ((w.alloc a).alloc (.cells Z 5)).drew (w.heap.size + 1) zeros := by
  unfold Buf
  rw [← zeroPage_eq, ← hZ]
  have := heap_alloc_new (w.alloc a) (.cells Z 5)
  rw [World.size_alloc] at this
  exact this
theorem page_second (w : World) (b : Obj) (cs : Array Value) : ((w.alloc (.cells cs 71)).alloc b).drew.heap[w.heap.size]? = some (.cells cs 71 (0, 0)) := obj_alloc (heap_alloc_new w _)
set_option maxRecDepth 20000 in
set_option maxHeartbeats 16000000 in
theorem eLoad_any (w : World) (A : Option Addr) (cap en n : Nat) (ss : List Sg) (hP : SgsAt w.heap.size w A ss) (hn : ss.length = n) (hen : en < 18446744073709551616) :
    Calls Try.prog 32 #[.agg #[.int .u64 en, .slice A n cap]] w (LoadE w en (ss.map Sg.d)) := by
  have HN := Lib.hid hn
  clear hn
  have hbk : ∀ w', Below w.heap.size w w' → SgsAt w'.heap.size w' A ss := fun w' h => (hP.below h).mono h.size
  have HK := Lib.hid hbk
  clear hbk
  obtain ⟨W0, hW0⟩ : ∃ W : World, W = (w.alloc (.cells #[.int .u64 en, .slice A n cap] 38)).alloc (.cells #[.int .u64 0, .int .u64 0, .int .u64 0, .int .u64 0, .int .u64 0, .int .u64 0, .int .u64 0, .int .u64 0, .int .u64 0, .int .u64 0, .int .u64 0, .int .u64 0, .int .u64 0, .int .u64 0, .int .u64 0, .int .u64 0, .int .u64 0, .int .u64 0, .int .u64 0, .int .u64 0, .int .u64 0, .int .u64 0, .int .u64 0, .int .u64 0, .int .u64 0, .int .u64 0, .int .u64 0, .int .u64 0, .int .u64 0, .int .u64 0, .int .u64 0, .int .u64 0, .int .u64 0, .int .i64 0, .bool false, .int .i64 0, .int .i64 0, .slice none 0 0, .int .i64 0] 60) := ⟨_, rfl⟩
  have hb0 : Below w.heap.size w W0 := by rw [hW0]; exact ((Below.refl _ _).alloc (Nat.le_refl _) _).alloc (by rw [World.size_alloc]; omega) _
  have hi0 : W0.heap[w.heap.size]? = some (.cells #[.int .u64 en, .slice A n cap] 38 (0, 0)) := by rw [hW0]; exact obj_alloc (heap_alloc_new w _)
  have hc0 : W0.heap[w.heap.size + 1]? = some (.cells (cpuA 0) 60 (0, 0)) := by
    have := heap_alloc_new (w.alloc (.cells #[.int .u64 en, .slice A n cap] 38)) (.cells #[.int .u64 0, .int .u64 0, .int .u64 0, .int .u64 0, .int .u64 0, .int .u64 0, .int .u64 0, .int .u64 0, .int .u64 0, .int .u64 0, .int .u64 0, .int .u64 0, .int .u64 0, .int .u64 0, .int .u64 0, .int .u64 0, .int .u64 0, .int .u64 0, .int .u64 0, .int .u64 0, .int .u64 0, .int .u64 0, .int .u64 0, .int .u64 0, .int .u64 0, .int .u64 0, .int .u64 0, .int .u64 0, .int .u64 0, .int .u64 0, .int .u64 0, .int .u64 0, .int .u64 0, .int .i64 0, .bool false, .int .i64 0, .int .i64 0, .slice none 0 0, .int .i64 0] 60)
    rw [World.size_alloc] at this
    rw [hW0]; exact this
  have j0 := obj_cell hi0 0
  have j1 := obj_cell hi0 1
  have HW := Lib.hid hW0
  clear hW0
  go_enter Try.func32, Try.ntmps32
  go_upto_region 1 with fail
  rw [← HW.out]
  go_wp2_with fail
  refine Calls.mono (eCheck_int _ A cap en n ss (HK.out _ hb0) HN.out hen) ?_
  rintro e w1 ⟨rfl, hB1⟩
  have hi1 := (hB1.block _ (lt_of_block hi0)).trans hi0
  have hc1 := (hB1.block _ (lt_of_block hc0)).trans hc0
  have hBa := hb0.trans (hB1.mono hb0.size)
  have hs1 : w.heap.size + 1 < w1.heap.size := lt_of_block hc1
  clear j0 j1 hi0 hc0
  by_cases hc : checkE en (ss.map Sg.d) = 0
  · have hd : (checkE en (ss.map Sg.d) != 0) = false := by rw [hc]; rfl
    have hK := check_ok hc
    have hlp := load_pages hc
    have HC := Lib.hid (And.intro hc (And.intro hK hlp))
    have hn8 : n ≤ 8 := by have := hK.few; rw [List.length_map, HN.out] at this; exact this
    clear hc hK hlp
    have j1 := obj_cell hi1 1
    go_wp2_with fail
    go_loopw [6, 20] (fun out i wr => ∃ (j c : Nat) (Ao : Option Addr) (ps : List PgIn), j ≤ n ∧ i = .int .i64 j ∧ out = .slice Ao ps.length c ∧ OwnPs wr w1.heap.size (.slice Ao ps.length c) ps ∧ ps.map PgIn.pg = loadT (ss.map Sg.d) j ∧ Below w1.heap.size w1 wr) (fun _ i _ => n - (intOf i).toNat)
    case atStart => exact ⟨0, 0, none, [], by omega, rfl, rfl, .nil _ _, rfl, Below.refl _ _⟩
    case round =>
      obtain ⟨j, co, Ao, ps, hj, rfl, rfl, hown, hps, hB⟩ := hrel
      have hir := (hB.block _ (lt_of_block hi1)).trans hi1
      have hcr := (hB.block _ (lt_of_block hc1)).trans hc1
      have jr := obj_cell hir 1
      have hBr := hBa.trans (hB.mono hBa.size)
      have hPj := HK.out _ hBr
      have HPS := Lib.hid hps
      clear hps
      by_cases hlt : j < n
      · have hd3 : decide ((j : Int) < (n : Int)) = true := decide_eq_true (by omega)
        have hji : (j : Int) < (n : Int) := by omega
        have hj1 : j < ss.length := by rw [HN.out]; exact hlt
        obtain ⟨b, o, rfl, hb, p0, p1, p2, p3⟩ := hPj.cells j hj1
        obtain ⟨x, hx⟩ : ∃ x, x = ss[j] := ⟨_, rfl⟩
        rw [← hx] at p0 p1 p2 p3
        have hxm : x ∈ ss := by rw [hx]; exact List.getElem_mem _
        have hxs := hP.small x hxm
        have hxc := hP.caps x hxm
        have hxd : (ss.map Sg.d)[j]? = some x.d := by rw [List.getElem?_map, List.getElem?_eq_getElem hj1, hx]; rfl
        have hF := okT_at HC.out.2.1.ok j (by rw [List.length_map]; exact hj1) (by rw [List.length_map]; exact hj1)
        have hFd : (ss.map Sg.d)[j]'(by rw [List.length_map]; exact hj1) = x.d := by rw [hx, List.getElem_map]
        rw [hFd] at hF
        have hsz : x.size ≤ 16777216 := hF.most
        have htop : x.addr + x.size ≤ 281474976710656 := hF.top
        have hfit : x.data.length ≤ x.size := hF.fits
        have hcnt : (loadT (ss.map Sg.d) j).length + segN x.d ≤ 4096 := by
          have h1 : (loadT (ss.map Sg.d) (j + 1)).length = (loadT (ss.map Sg.d) j).length + segN x.d := by rw [loadT_succ hxd, List.length_append]; simp [segPs]
          have h2 := pagT_mono (ss := ss.map Sg.d) (show j + 1 ≤ (ss.map Sg.d).length by rw [List.length_map]; exact hj1)
          rw [← loadT_length, ← loadT_length] at h2
          have h3 := HC.out.2.2.2.2
          omega
        have HX := Lib.hid (And.intro hxd hcnt)
        have HXM := Lib.hid hxm
        clear hx hxm hxd hF hFd hcnt
        obtain ⟨sb, hsb⟩ : ∃ sb, sb = wr.heap.size := ⟨_, rfl⟩
        have hseg := heap_alloc_new wr (.cells #[.int .u64 (x.addr : Int), .int .i64 x.perm, .slice x.A x.data.length x.cap, .int .u64 (x.size : Int)] 73)
        have hBs : Below w1.heap.size w1 (wr.alloc (.cells #[.int .u64 (x.addr : Int), .int .i64 x.perm, .slice x.A x.data.length x.cap, .int .u64 (x.size : Int)] 73)) := hB.alloc hB.size _
        have hownS := hown.below ((Below.refl _ _).alloc (Nat.le_refl _) (.cells #[.int .u64 (x.addr : Int), .int .i64 x.perm, .slice x.A x.data.length x.cap, .int .u64 (x.size : Int)] 73))
        have hsbw : w1.heap.size ≤ sb := by rw [hsb]; exact hB.size
        rw [← hsb] at hseg
        have HSB := Lib.hid hsb
        clear hsb
        go_wp2_with fail
        rw [← HSB.out]
        clear HSB jr hir hcr hown hB hBr p0 p1 p2 p3 hPj
        go_loopw [6, 9] (fun out a wr => ∃ (i av c : Nat) (Ao : Option Addr) (ps : List PgIn), i ≤ segN x.d ∧ av = 4096 * i ∧ a = .int .u64 (av : Nat) ∧ out = .slice Ao ps.length c ∧ OwnPs wr w1.heap.size (.slice Ao ps.length c) ps ∧
          ps.map PgIn.pg = loadT (ss.map Sg.d) j ++ segPs x.d i ∧ wr.heap[sb]? = some (.cells #[.int .u64 (x.addr : Int), .int .i64 x.perm, .slice x.A x.data.length x.cap, .int .u64 (x.size : Int)] 73 (0, 0)) ∧ Below w1.heap.size w1 wr) (fun _ a _ => segN x.d - (intOf a).toNat / 4096)
        case atStart => exact ⟨0, 0, co, Ao, ps, by omega, rfl, rfl, rfl, hownS, by rw [HPS.out]; simp [segPs], hseg, hBs⟩
        case round =>
          clear hownS hseg hBs
          obtain ⟨i, av, co2, Ao2, qs, hi, hav, rfl, rfl, hown, hqs, hseg, hB⟩ := hrel
          have hBr := hBa.trans (hB.mono hBa.size)
          have s0 := obj_cell hseg 0
          have s1 := obj_cell hseg 1
          have s2 := obj_cell hseg 2
          have s3 := obj_cell hseg 3
          have hsgn : segN x.d = (x.size + 4095) / 4096 := rfl
          have hql : qs.length = (loadT (ss.map Sg.d) j).length + i := by
            have := congrArg List.length hqs
            rw [List.length_map, List.length_append] at this
            rw [this]; simp [segPs]
          have hqn : qs.length + 1 ≤ 100000 ∨ ¬ i < segN x.d := by
            have := HX.out.2
            omega
          by_cases hin : i < segN x.d
          · have hlt2 : av < x.size := by rw [hsgn] at hin; omega
            have hd4 : decide (av < x.size) = true := decide_eq_true hlt2
            have hqn2 : qs.length + 1 ≤ 100000 := by rcases hqn with h | h; exact h; exact absurd hin h
            have HQ := Lib.hid (And.intro hqs (And.intro hav (And.intro hsgn hql)))
            have ew : IntKind.u64.wrap ((x.addr : Int) + (av : Int)) = (x.addr : Int) + (av : Int) := by rw [IntKind.wrap_u64]; omega
            have HP := Lib.hid hqn2
            clear hqs hav hqn hsgn hql
            obtain ⟨Z, hZ⟩ : ∃ Z : Array Value, Z = zeroPage := ⟨_, rfl⟩
            have hmk : ∀ w, (Instr.makeSlice 35 (.int .i64 4096) (.int .i64 4096)).run Try.prog w = .ok (.slice (some ⟨w.heap.size, 0, none⟩) 4096 4096) (w.alloc (.cells Z 5)) := by rw [hZ]; exact run_makePage
            have HZZ := Lib.hid hZ
            clear hZ
            have sA0 : ∀ o, (wr.alloc o).cell? ⟨sb, 0, none⟩ = some (.int .u64 (x.addr : Int)) := fun o => (World.cell?_alloc_lt wr o ⟨sb, 0, none⟩ (lt_of_block hseg)).trans s0
            have sA1 : ∀ o, (wr.alloc o).cell? ⟨sb, 1, none⟩ = some (.int .i64 x.perm) := fun o => (World.cell?_alloc_lt wr o ⟨sb, 1, none⟩ (lt_of_block hseg)).trans s1
            have sB0 : ∀ o o2, ((wr.alloc o).alloc o2).cell? ⟨sb, 0, none⟩ = some (.int .u64 (x.addr : Int)) := fun o o2 => (World.cell?_alloc_lt (wr.alloc o) o2 ⟨sb, 0, none⟩ (by rw [World.size_alloc]; exact Nat.lt_succ_of_lt (lt_of_block hseg))).trans (sA0 o)
            have sB1 : ∀ o o2, ((wr.alloc o).alloc o2).cell? ⟨sb, 1, none⟩ = some (.int .i64 x.perm) := fun o o2 => (World.cell?_alloc_lt (wr.alloc o) o2 ⟨sb, 1, none⟩ (by rw [World.size_alloc]; exact Nat.lt_succ_of_lt (lt_of_block hseg))).trans (sA1 o)
            go_upto_region 11 with fail
            go_cut [10] from 24 to 54 (fun s10 wx => ∃ g pb : Nat, s10 = .pointer (some ⟨pb, 0, none⟩) ∧ Buf wx g zeros ∧ wx.heap[pb]? = some (.cells #[.int .u64 ((x.addr : Int) + (av : Int)), .int .i64 x.perm, .slice (some ⟨g, 0, none⟩) 4096 4096] 71 (0, 0)) ∧ Below wr.heap.size wr wx ∧ wr.heap.size ≤ g ∧ wr.heap.size ≤ pb ∧ g ≠ pb)
            case first =>
              go_region
              all_goals
                go_wp2_with fail
                go_meet
                first
                  | exact ⟨wr.heap.size, wr.heap.size + 1, rfl, buf_first wr _ Z HZZ.out, page_first wr _ _, two_below wr _ _, Nat.le_refl _, Nat.le_succ _, by omega⟩
                  | exact ⟨wr.heap.size + 1, wr.heap.size, rfl, buf_second wr _ Z HZZ.out, page_second wr _ _, two_below wr _ _, Nat.le_succ _, Nat.le_refl _, by omega⟩
            case rest =>
              obtain ⟨g, pb, rfl, hbuf4, hpg4, hB4, hgl, hpl, hgp⟩ := hcut
              clear hmk sA0 sA1 sB0 sB1 s0 s1 s2 s3
              have hgw : w1.heap.size ≤ g := Nat.le_trans hB.size hgl
              have hsbx : sb < wr.heap.size := lt_of_block hseg
              have hseg4 := (hB4.block _ hsbx).trans hseg
              have hbs4 := (hP.bytes x HXM.out).below (hBr.trans (hB4.mono hBr.size))
              have s0 := obj_cell hseg4 0
              have s1 := obj_cell hseg4 1
              have s2 := obj_cell hseg4 2
              have s3 := obj_cell hseg4 3
              have v2 := obj_cell hpg4 2
              by_cases hin2 : av < x.data.length
              · have hd5 : decide (av < x.data.length) = true := decide_eq_true hin2
                have hi1' : (av : Int) ≤ (x.data.length : Int) := by omega
                have hi2' : (x.data.length : Int) ≤ (x.cap : Int) := by omega
                have hne : ¬ av = x.cap := by omega
                have hne2 : ¬ x.cap = av := by omega
                obtain ⟨xb, xo, hxa, _⟩ := hbs4.form (by intro h; have := congrArg List.length h; rw [bcells_length] at this; simp at this; rw [this] at hin2; simp at hin2)
                rw [hxa] at s2 hbs4 hseg4
                have hbd := Bs.drop_at hbs4 av
                have HXA := Lib.hid hxa
                have hlt4 := hbuf4.lt
                have hsb4 : sb ≠ g := by omega
                have hpb4 : pb ≠ g := fun e => hgp e.symm
                have hpl4 := lt_of_block hpg4
                have hsl4 := lt_of_block hseg4
                clear hxa
                go_wp2_with fail
                go_region_held3 (fun W' => W'.cell? ⟨pb, 2, none⟩ = some (.slice (some ⟨g, 0, none⟩) 4096 4096) ∧ W'.cell? ⟨sb, 2, none⟩ = some (.slice (some ⟨xb, xo, none⟩) x.data.length x.cap))
                  (first | exact ⟨v2, s2⟩ | exact ⟨y2, z2⟩)
                  (first
                    | (refine step_copyB2 rfl (.tmp 45) (.tmp 49) rfl g 0 4096 4096 rfl zeros (show Buf wc.drew g zeros from hbuf4) (some ⟨xb, xo + av, none⟩) (x.data.length - av) (x.cap - av) w.heap.size rfl (x.data.drop av) (show Bs w.heap.size wc.drew _ _ from hbd) (List.length_drop ..) (by rw [zeros_length]; exact Nat.le_refl _) (by omega) (by decide) ?_
                       intro w5 hb5 hk5
                       have y2 := (hk5.cell (p := ⟨pb, 2, none⟩) hpl4 hpb4).trans v2
                       have z2 := (hk5.cell (p := ⟨sb, 2, none⟩) hsl4 hsb4).trans s2))
                rw [page_data x.data i av HQ.out.2.1] at hb5
                have hk45 : Below wr.heap.size wc w5 := (Below.refl _ _).drew.trans (hk5.below (show wr.heap.size ≤ wc.heap.size by omega) (by rintro b rfl; omega))
                clear s0 s1 s2 s3 v2
                have hown5 := hown.below (hB4.trans hk45)
                have hseg5 := ((hk5.block sb hsl4 hsb4).trans hseg4)
                have hpg5 := ((hk5.block pb hpl4 hpb4).trans hpg4)
                have hB5w : Below w1.heap.size w1 w5 := hB.trans ((hB4.trans hk45).mono hB.size)
                have t0 := obj_cell hseg5 0
                have t1 := obj_cell hseg5 1
                have t2 := obj_cell hseg5 2
                have t3 := obj_cell hseg5 3
                have u0 := obj_cell hpg5 0
                have u1 := obj_cell hpg5 1
                have u2 := obj_cell hpg5 2
                have HB := Lib.hid hb5
                have hgs : g < w5.heap.size := HB.out.lt
                clear hbuf4
                go_wp2_with (at_builtin; refine wpList_appP _ rfl (.tmp 51) (.tmp 53) rfl w1.heap.size (.slice Ao2 qs.length co2) qs rfl (hown5.below ((Below.refl _ _).alloc (Nat.le_refl _) _)) _ _ ⟨x.addr + av, x.perm, some ⟨g, 0, none⟩, 4096, pageB x.data i⟩ rfl (lit_page _ x.addr av (g) x.perm (pageB x.data i) (pageB_length _ _)) (by intro e; have := (hown5.row.lt _ e).2; omega) (page_own (HB.out.below ((Below.refl _ _).alloc (Nat.le_refl _) _)) hgw (pageB_length _ _)) ⟨by show x.addr + av < _; omega, by show (pageB x.data i).length ≤ _; rw [pageB_length]; decide⟩ hqn2 (by rw [World.size_alloc]; exact Nat.le_succ_of_le hB5w.size) ?hc1)
                case hc1 =>
                  intro v' w6 hown6 hB6 hkeep
                  have hB6w : Below w1.heap.size w1 w6 := hB6 w1 (hB5w.alloc hB5w.size _)
                  have hseg6 := (hkeep sb (by have := lt_of_block hseg5; omega) (by intro e; obtain ⟨_, cur, hcx⟩ := hown5.row.block e; rw [hseg5] at hcx; cases hcx)).trans (obj_alloc hseg5)
                  obtain ⟨A6, c6, rfl, -⟩ := hown6.row.form
                  have HS := Lib.hid (show (qs ++ [(⟨x.addr + av, x.perm, some ⟨g, 0, none⟩, 4096, pageB x.data i⟩ : PgIn)]).map PgIn.pg = loadT (ss.map Sg.d) j ++ segPs x.d (i + 1) by
                    rw [List.map_append, HQ.out.1, segPs_succ, List.append_assoc, HQ.out.2.1]; rfl)
                  have e6 : (qs ++ [(⟨x.addr + av, x.perm, some ⟨g, 0, none⟩, 4096, pageB x.data i⟩ : PgIn)]).length = qs.length + 1 := by simp
                  have HO := Lib.hid (And.intro hown6 e6)
                  clear hown6 e6 hkeep hB6 t0 t1 t2 t3 u0 u1 u2 hseg5 hpg5 hown5
                  go_wp2
                  go_roundw
                  case rel => exact ⟨i + 1, av + 4096, c6, A6, _, by omega, by have := HQ.out.2.1; omega, by go_num, by rw [HO.out.2], HO.out.1, HS.out, (by first | exact hseg6 | (rw [HXA.out]; exact hseg6)), hB6w⟩
                  case measure => have := HQ.out.2.1; simp [intOf]; omega
              · have hd5 : decide (av < x.data.length) = false := decide_eq_false hin2
                rw [page_zero x.data i av HQ.out.2.1 (by omega)] at hbuf4
                clear s0 s1 s2 s3 v2
                have hown5 := hown.below (hB4)
                have hseg5 := hseg4
                have hpg5 := hpg4
                have hB5w : Below w1.heap.size w1 wc := hB.trans ((hB4).mono hB.size)
                have t0 := obj_cell hseg5 0
                have t1 := obj_cell hseg5 1
                have t2 := obj_cell hseg5 2
                have t3 := obj_cell hseg5 3
                have u0 := obj_cell hpg5 0
                have u1 := obj_cell hpg5 1
                have u2 := obj_cell hpg5 2
                have HB := Lib.hid hbuf4
                have hgs : g < wc.heap.size := HB.out.lt
                skip
                go_wp2_with (at_builtin; refine wpList_appP _ rfl (.tmp 51) (.tmp 53) rfl w1.heap.size (.slice Ao2 qs.length co2) qs rfl (hown5.below ((Below.refl _ _).alloc (Nat.le_refl _) _)) _ _ ⟨x.addr + av, x.perm, some ⟨g, 0, none⟩, 4096, pageB x.data i⟩ rfl (lit_page _ x.addr av (g) x.perm (pageB x.data i) (pageB_length _ _)) (by intro e; have := (hown5.row.lt _ e).2; omega) (page_own (HB.out.below ((Below.refl _ _).alloc (Nat.le_refl _) _)) hgw (pageB_length _ _)) ⟨by show x.addr + av < _; omega, by show (pageB x.data i).length ≤ _; rw [pageB_length]; decide⟩ hqn2 (by rw [World.size_alloc]; exact Nat.le_succ_of_le hB5w.size) ?hd1)
                case hd1 =>
                  intro v' w6 hown6 hB6 hkeep
                  have hB6w : Below w1.heap.size w1 w6 := hB6 w1 (hB5w.alloc hB5w.size _)
                  have hseg6 := (hkeep sb (by have := lt_of_block hseg5; omega) (by intro e; obtain ⟨_, cur, hcx⟩ := hown5.row.block e; rw [hseg5] at hcx; cases hcx)).trans (obj_alloc hseg5)
                  obtain ⟨A6, c6, rfl, -⟩ := hown6.row.form
                  have HS := Lib.hid (show (qs ++ [(⟨x.addr + av, x.perm, some ⟨g, 0, none⟩, 4096, pageB x.data i⟩ : PgIn)]).map PgIn.pg = loadT (ss.map Sg.d) j ++ segPs x.d (i + 1) by
                    rw [List.map_append, HQ.out.1, segPs_succ, List.append_assoc, HQ.out.2.1]; rfl)
                  have e6 : (qs ++ [(⟨x.addr + av, x.perm, some ⟨g, 0, none⟩, 4096, pageB x.data i⟩ : PgIn)]).length = qs.length + 1 := by simp
                  have HO := Lib.hid (And.intro hown6 e6)
                  clear hown6 e6 hkeep hB6 t0 t1 t2 t3 u0 u1 u2 hseg5 hpg5 hown5
                  go_wp2
                  go_roundw
                  case rel => exact ⟨i + 1, av + 4096, c6, A6, _, by omega, by have := HQ.out.2.1; omega, by go_num, by rw [HO.out.2], HO.out.1, HS.out, (by first | exact hseg6 | (rw [HXA.out]; exact hseg6)), hB6w⟩
                  case measure => have := HQ.out.2.1; simp [intOf]; omega
          · have hd4 : decide (av < x.size) = false := decide_eq_false (by rw [hsgn] at hin; omega)
            obtain rfl : i = segN x.d := by omega
            have HQ := Lib.hid (show qs.map PgIn.pg = loadT (ss.map Sg.d) (j + 1) by rw [hqs, loadT_succ HX.out.1])
            clear hqs hav hqn hsgn hql
            go_wp2
            go_roundw
            case rel => exact ⟨j + 1, co2, Ao2, qs, by omega, by go_num, rfl, hown, HQ.out, hB⟩
            case measure => simp [intOf]; omega
      · have hd3 : decide ((j : Int) < (n : Int)) = false := decide_eq_false (by omega)
        obtain rfl : j = n := by omega
        have HQ := Lib.hid (show ps.map PgIn.pg = loadT (ss.map Sg.d) (ss.map Sg.d).length by rw [List.length_map, HN.out]; exact HPS.out)
        have jr0 := obj_cell hir 0
        go_wp2_with (refine wpList_store_row (o := ⟨none, Op.store 60 (.tmp 2) (.tmp 58), _, _, _, _⟩) rfl 60 (.tmp 2) (.tmp 58) rfl (w.heap.size + 1) (cpuA en) rfl rfl 60 _ hcr Try_sizeCpu rfl (cpu_one en) ?_)
        have hW := setRow_heap wr (w.heap.size + 1) _ (cpuA en) _ _ hcr
        refine bodyPost_ret (v := .tuple #[.agg (cpuA en), .slice Ao ps.length co, .int .i64 0]) (results_cpu _ rfl _ (w.heap.size + 1) (cpuA en) _ _ _ rfl rfl rfl hW rfl) rfl ?_
        exact .inl ⟨HC.out.1, Ao, co, ps, rfl, (hown.base hBa.size).row_set hcr, HQ.out, below_setRow hBr (Nat.le_succ _) _⟩
  · have hd : (checkE en (ss.map Sg.d) != 0) = true := by simpa using hc
    have h40 := check_no hc
    have HC := Lib.hid h40
    clear hc h40
    go_wp2_with (refine wpList_store_row (o := ⟨none, Op.store 60 (.tmp 2) (.tmp 15), _, _, _, _⟩) rfl 60 (.tmp 2) (.tmp 15) rfl (w.heap.size + 1) (cpuA 0) rfl rfl 60 _ hc1 Try_sizeCpu rfl (cpu_one 0) ?_)
    have hW := setRow_heap w1 (w.heap.size + 1) _ (cpuA 0) _ _ hc1
    refine bodyPost_ret (v := .tuple #[.agg (cpuA 0), .slice none 0 0, .int .i64 (checkE en (ss.map Sg.d))]) (results_cpu _ rfl _ (w.heap.size + 1) (cpuA 0) _ _ _ rfl rfl rfl hW rfl) rfl ?_
    exact .inr ⟨HC.out, by rw [HC.out]; rfl, below_setRow hBa (Nat.le_succ _) _⟩
end Go.Proofs
