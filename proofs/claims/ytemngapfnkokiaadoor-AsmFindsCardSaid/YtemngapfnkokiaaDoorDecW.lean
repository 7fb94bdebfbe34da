/- patinaref01.Decode finds what patina/rv.Decode finds. -/
import Derived.Test.YtemngapfnkokiaaDoorGuessT
import Derived.Test.YtemngapfnkokiaaDoorWord
namespace Go.Pat
open Go Go.RowKit
theorem gIns_small (op x : Nat) : (gIns op x).rd < 32 ∧ (gIns op x).rs1 < 32 ∧ (gIns op x).rs2 < 32 := by
  unfold gIns
  refine ⟨?_, ?_, ?_⟩ <;> simp only <;> split <;> omega
theorem regB_of (n : Nat) (nm : Bool) (h : n < 32) : regB (if nm then n else 0 : Nat) nm = true := by
  cases nm
  · rfl
  · simp only [regB, if_true, Bool.and_eq_true, decide_eq_true_eq]; omega
theorem gIns_right (op x : Nat) (h1 : 1 ≤ op) (h2 : op < 66) : rightI (op : Int) (gIns op x).rd (gIns op x).rs1 (gIns op x).rs2 (gIns op x).imm = true := by
  have hl : (formR op).1 ∈ lettersL := formR_letter _
  have h0 : (formR op).1 ≠ 0 := by
    obtain ⟨k, rfl⟩ : ∃ k, op = k + 1 := ⟨op - 1, by omega⟩
    exact (show ∀ k, k < 65 → (formR (k + 1)).1 ≠ 0 by decide) k (by omega)
  unfold rightI formZ
  rw [Int.toNat_natCast]
  unfold gIns
  simp only
  rw [immB1_g _ x hl, regB_of _ _ (by omega), regB_of _ _ (by omega), regB_of _ _ (by omega)]
  simp [h0]
theorem bitsN_eq (w f c a : Nat) (h : w / 2 ^ f % 2 ^ c * 2 ^ a < 4294967296) : bitsN w f c a = w / 2 ^ f % 2 ^ c * 2 ^ a := Nat.mod_eq_of_lt h
theorem immV_S (x : Nat) (hx : x < 4294967296) : bitsN x 7 5 0 ||| bitsN x 25 7 5 = x / 128 % 32 + x / 33554432 * 32 := by
  rw [bitsN_eq _ _ _ _ (by omega), bitsN_eq _ _ _ _ (by omega), or_add _ _ 5 (by omega)]
  omega
theorem immV_B (x : Nat) (hx : x < 4294967296) : bitsN x 7 1 11 ||| bitsN x 8 4 1 ||| bitsN x 25 6 5 ||| bitsN x 31 1 12 = x / 256 % 16 * 2 + x / 33554432 % 64 * 32 + x / 128 % 2 * 2048 + x / 2147483648 * 4096 := by
  rw [Nat.or_comm (bitsN x 7 1 11), Nat.or_assoc (bitsN x 8 4 1), Nat.or_comm (bitsN x 7 1 11), ← Nat.or_assoc,
    bitsN_eq _ _ _ _ (by omega), bitsN_eq _ _ _ _ (by omega), bitsN_eq _ _ _ _ (by omega), bitsN_eq _ _ _ _ (by omega), or_add _ _ 5 (by omega), or_add _ _ 11 (by omega), or_add _ _ 12 (by omega)]
  omega
theorem immV_J (x : Nat) (hx : x < 4294967296) : bitsN x 12 8 12 ||| bitsN x 20 1 11 ||| bitsN x 21 10 1 ||| bitsN x 31 1 20 = x / 2097152 % 1024 * 2 + x / 1048576 % 2 * 2048 + x / 4096 % 256 * 4096 + x / 2147483648 * 1048576 := by
  rw [Nat.or_comm _ (bitsN x 21 10 1), Nat.or_comm (bitsN x 12 8 12), ← Nat.or_assoc,
    bitsN_eq _ _ _ _ (by omega), bitsN_eq _ _ _ _ (by omega), bitsN_eq _ _ _ _ (by omega), bitsN_eq _ _ _ _ (by omega), or_add _ _ 11 (by omega), or_add _ _ 12 (by omega), or_add _ _ 20 (by omega)]
  omega
theorem gIns_fits (op x : Nat) (h1 : 1 ≤ op) (h2 : op < 66) (hx : x < 4294967296) (hf : fitsR op x = true) : gIns op x = insOf op x := by
  have ht := tab_ok op h1 h2
  unfold gIns insOf
  unfold fitsR at hf
  unfold tabOK at ht
  generalize hF : formR op = F at *
  generalize hR : rvRow op = R at *
  obtain ⟨l, c, f3, f7⟩ := F
  simp only [Bool.or_eq_true, Bool.and_eq_true, beq_iff_eq, decide_eq_true_eq] at ht
  rcases ht with (((((((⟨⟨⟨⟨rfl, rfl⟩, a1⟩, a2⟩, a3⟩ | ⟨⟨⟨rfl, rfl⟩, a1⟩, a2⟩) | ⟨⟨⟨⟨⟨rfl, rfl⟩, a1⟩, a2⟩, a3⟩, a4⟩) | ⟨⟨⟨⟨rfl, rfl⟩, rfl⟩, a3⟩, a4⟩) | ⟨⟨⟨rfl, rfl⟩, a1⟩, a2⟩) | ⟨⟨⟨rfl, rfl⟩, a1⟩, a2⟩) | ⟨⟨⟨rfl, rfl⟩, a1⟩, rfl⟩) | ⟨⟨⟨rfl, rfl⟩, a1⟩, rfl⟩) | ⟨⟨rfl, rfl⟩, rfl⟩
  · simp [hasD1, hasD, has11, has1, has21, has2, gImm, immV]
  · simp [hasD1, hasD, has11, has1, has21, has2, gImm, immV]
  · simp [hasD1, hasD, has11, has1, has21, has2, gImm, immV]
  · have e : x / 1048576 % 32 = x / 1048576 % 64 := by
      simp [fitsB] at hf
      omega
    have e' : (x : Int) / 1048576 % 32 = (x : Int) / 1048576 % 64 := by omega
    simp [hasD1, hasD, has11, has1, has21, has2, gImm, immV, e']
  · simp [hasD1, hasD, has11, has1, has21, has2, gImm, immV, immV_S x hx]
  · simp [hasD1, hasD, has11, has1, has21, has2, gImm, immV, immV_B x hx]
  · simp [hasD1, hasD, has11, has1, has21, has2, gImm, immV]
  · simp [hasD1, hasD, has11, has1, has21, has2, gImm, immV, immV_J x hx]
  · simp [hasD1, hasD, has11, has1, has21, has2, gImm, immV]
end Go.Pat
namespace Go.Proofs
open Go Go.RowKit Go.Pat
theorem r1dec_ret (tmps : Array Value) (Wp : World) (b : Nat) (hb : Wp.heap[b]? = some (.cells z5 32 (0, 0))) (v0 v1 v2 v3 v4 : Value) (Post : Ending → World → Prop) (h2 : tmps[2]?.getD undef = .pointer (some ⟨b, 0, none⟩)) (h3 : tmps[3]?.getD undef = .int .i64 0)
    (h : Post (.returned (.tuple #[.agg #[v0, v1, v2, v3, v4], .int .i64 0])) (((((Wp.setCell ⟨b, 0, none⟩ v0).setCell ⟨b, 1, none⟩ v1).setCell ⟨b, 2, none⟩ v2).setCell ⟨b, 3, none⟩ v3).setCell ⟨b, 4, none⟩ v4)) :
    bodyPost Tryd.prog Tryd.f56 Post Exit.ret ⟨tmps, []⟩ (((((Wp.setCell ⟨b, 0, none⟩ v0).setCell ⟨b, 1, none⟩ v1).setCell ⟨b, 2, none⟩ v2).setCell ⟨b, 3, none⟩ v3).setCell ⟨b, 4, none⟩ v4) := by
  have hX := obj_set (obj_set (obj_set (obj_set (obj_set hb 0 v0) 1 v1) 2 v2) 3 v3) 4 v4
  have hc : ((((z5.setIfInBounds 0 v0).setIfInBounds 1 v1).setIfInBounds 2 v2).setIfInBounds 3 v3).setIfInBounds 4 v4 = #[v0, v1, v2, v3, v4] := by simp [z5]
  rw [hc] at hX
  exact bodyPost_ret (results_dec _ rfl tmps b _ _ (.int .i64 0) h2 h3 hX rfl) rfl h
set_option maxRecDepth 20000 in
set_option maxHeartbeats 4000000 in
theorem r1Decode_any (x : Nat) (hx : x < 4294967296) (w : World) :
    Calls Tryd.prog 56 #[.int .u32 x] w fun e w' => e = .returned (decV x) ∧ Below w.heap.size w w' := by
  obtain ⟨w1, hw1⟩ : ∃ w1 : World, w1 = w.alloc (.cells z5 32) := ⟨_, rfl⟩
  have hr1 : w1.heap[w.heap.size]? = some (.cells z5 32 (0, 0)) := by rw [hw1]; exact heap_alloc_new w _
  have hB1 : Below w.heap.size w w1 := by rw [hw1]; exact (Below.refl _ _).alloc (Nat.le_refl _) _
  have hs1 : w1.heap.size = w.heap.size + 1 := by rw [hw1, World.size_alloc]
  unfold z5 at hw1
  have HW := Lib.hid hw1
  clear hw1
  go_enter Tryd.func56, Tryd.ntmps56
  go_upto_region 1 with fail
  rw [← HW.out]
  go_wp2_with fail
  go_loopw [4] (fun i wr => ∃ k : Nat, 1 ≤ k ∧ k ≤ 66 ∧ i = .int .i64 k ∧ decGo x (66 - k) k = decGo x 65 1 ∧ Below w1.heap.size w1 wr) (fun i _ => 66 - (intOf i).toNat)
  case atStart => exact ⟨1, by omega, by omega, rfl, rfl, Below.refl _ _⟩
  case round =>
    obtain ⟨k, hk1, hk2, rfl, hd, hB⟩ := hrel
    have hrr := (hB.block _ (by omega)).trans hr1
    by_cases hlt : k < 66
    · have t1 : decide ((k : Int) ≤ 65) = true := decide_eq_true (by omega)
      have HG : ∀ W : World, Calls Tryd.prog 89 #[.int .i64 (k : Int), .int .u32 (x : Int)] W fun e w' => e = .returned (.agg #[.int .i64 (k : Int), .int .i64 ((gIns k x).rd : Int), .int .i64 ((gIns k x).rs1 : Int), .int .i64 ((gIns k x).rs2 : Int), .int .i64 (gIns k x).imm]) ∧ Below W.heap.size W w' :=
        fun W => guess_any k x hlt hx W
      obtain ⟨g1, g2, g3⟩ := gIns_small k x
      have HT : ∀ W : World, Calls Tryd.prog 14 #[.agg #[.int .i64 (k : Int), .int .i64 ((gIns k x).rd : Int), .int .i64 ((gIns k x).rs1 : Int), .int .i64 ((gIns k x).rs2 : Int), .int .i64 (gIns k x).imm]] W fun e w' => e = .returned (.bool true) ∧ Below W.heap.size W w' := fun W => by
        have := r1Right_any (k : Int) (gIns k x).rd (gIns k x).rs1 (gIns k x).rs2 (gIns k x).imm W
        rw [gIns_right k x hk1 hlt] at this
        exact this
      have HO : ∀ W : World, Calls Tryd.prog 53 #[.agg #[.int .i64 (k : Int), .int .i64 ((gIns k x).rd : Int), .int .i64 ((gIns k x).rs1 : Int), .int .i64 ((gIns k x).rs2 : Int), .int .i64 (gIns k x).imm]] W fun e w' => e = .returned (.int .u32 (gWord k x : Int)) ∧ Below W.heap.size W w' :=
        fun W => rword_any k _ _ _ _ hlt g1 g2 g3 W
      have hfin : fitsR k x = true → decV x = .tuple #[.agg #[.int .i64 (k : Int), .int .i64 ((gIns k x).rd : Int), .int .i64 ((gIns k x).rs1 : Int), .int .i64 ((gIns k x).rs2 : Int), .int .i64 (gIns k x).imm], .int .i64 0] := fun hf => by
        unfold decV
        rw [decR_hit hd hlt hf]
        show _ = Value.tuple #[.agg (gIns k x).cells, .int .i64 0]
        rw [gIns_fits k x hk1 hlt hx hf]
      have hfw := gWord_fits k x hk1 hlt hx
      generalize (gIns k x).rd = d at *
      generalize (gIns k x).rs1 = a at *
      generalize (gIns k x).rs2 = b at *
      generalize (gIns k x).imm = n at *
      generalize gWord k x = q at *
      have hsz : w.heap.size < wr.heap.size := by have := hB.size; omega
      have HGh := Lib.hid HG
      have HTh := Lib.hid HT
      have HOh := Lib.hid HO
      have hle : w.heap.size ≤ wr.heap.size := by omega
      have hBt : Below w.heap.size w wr := hB1.trans (hB.mono hB1.size)
      have HDh := Lib.hid (And.intro hfin hd)
      clear HG HT HO hfin hd hB1 hk2
      go_wp2_with fail
      refine Calls.mono (HGh.out _) ?_
      rintro e w3 ⟨rfl, hB3⟩
      have hz3 : wr.heap.size ≤ w3.heap.size := hB3.size
      have hr3 := (hB3.block _ hsz).trans hrr
      go_wp2_with fail
      refine Calls.mono (HTh.out _) ?_
      rintro e w4 ⟨rfl, hB4⟩
      have hz4 : w3.heap.size + 1 ≤ w4.heap.size := by have := hB4.size; rw [World.size_alloc] at this; exact this
      have hb4 := (hB4.block _ (by rw [World.size_alloc]; omega)).trans (heap_alloc_new w3 (.cells #[.int .i64 (k : Int), .int .i64 d, .int .i64 a, .int .i64 b, .int .i64 n] 32))
      have hr4 := (hB4.block _ (by rw [World.size_alloc]; omega)).trans ((Below.heap_alloc w3 _ _ (by omega)).trans hr3)
      have y0 : w4.cell? ⟨w3.heap.size, 0, none⟩ = some (.int .i64 k) := (obj_cell hb4 0).trans rfl
      have y1 : w4.cell? ⟨w3.heap.size, 1, none⟩ = some (.int .i64 d) := (obj_cell hb4 1).trans rfl
      have y2 : w4.cell? ⟨w3.heap.size, 2, none⟩ = some (.int .i64 a) := (obj_cell hb4 2).trans rfl
      have y3 : w4.cell? ⟨w3.heap.size, 3, none⟩ = some (.int .i64 b) := (obj_cell hb4 3).trans rfl
      have y4 : w4.cell? ⟨w3.heap.size, 4, none⟩ = some (.int .i64 n) := (obj_cell hb4 4).trans rfl
      go_wp2_with fail
      refine Calls.mono (HOh.out _) ?_
      rintro e w5 ⟨rfl, hB5⟩
      clear y0 y1 y2 y3 y4
      have hb5 := (hB5.block _ (by omega)).trans hb4
      have hr5 := (hB5.block _ (by omega)).trans hr4
      have hBf : Below wr.heap.size wr w5 := (hB3.trans (((Below.refl _ _).alloc (Nat.le_refl _) _ : Below w3.heap.size w3 (w3.alloc _)).mono hz3)).trans ((hB4.mono (by rw [World.size_alloc]; omega)).trans (hB5.mono (by omega)))
      cases hf : fitsR k x with
      | false =>
        have t2 : ((q : Int) == (x : Int)) = false := by
          rw [beq_eq_false_iff_ne]; intro h; rw [hf] at hfw; exact absurd (hfw.1 (by omega)) (by decide)
        have HD := Lib.hid (show decGo x (66 - (k + 1)) (k + 1) = decGo x 65 1 by
          rw [← HDh.out.2, decGo_step x k hlt, hf]; rfl)
        clear hfw hf
        go_wp2
        go_roundw
        case rel => exact ⟨k + 1, by omega, by omega, by go_num, HD.out, hB.trans (hBf.mono hB.size)⟩
        case measure => simp [intOf]; omega
      | true =>
        have t2 : ((q : Int) == (x : Int)) = true := by
          rw [beq_iff_eq]; rw [hf] at hfw; have := hfw.2 rfl; omega
        have HD := Lib.hid (HDh.out.1 hf)
        clear hfw hf
        have y0 : w5.cell? ⟨w3.heap.size, 0, none⟩ = some (.int .i64 k) := (obj_cell hb5 0).trans rfl
        have y1 : w5.cell? ⟨w3.heap.size, 1, none⟩ = some (.int .i64 d) := (obj_cell hb5 1).trans rfl
        have y2 : w5.cell? ⟨w3.heap.size, 2, none⟩ = some (.int .i64 a) := (obj_cell hb5 2).trans rfl
        have y3 : w5.cell? ⟨w3.heap.size, 3, none⟩ = some (.int .i64 b) := (obj_cell hb5 3).trans rfl
        have y4 : w5.cell? ⟨w3.heap.size, 4, none⟩ = some (.int .i64 n) := (obj_cell hb5 4).trans rfl
        have q0 : w5.cell? ⟨w.heap.size, 0, none⟩ = some (.int .i64 0) := (obj_cell hr5 0).trans rfl
        have p0 := obj_frozen hr5 0
        have q1 : w5.cell? ⟨w.heap.size, 1, none⟩ = some (.int .i64 0) := (obj_cell hr5 1).trans rfl
        have p1 := obj_frozen hr5 1
        have q2 : w5.cell? ⟨w.heap.size, 2, none⟩ = some (.int .i64 0) := (obj_cell hr5 2).trans rfl
        have p2 := obj_frozen hr5 2
        have q3 : w5.cell? ⟨w.heap.size, 3, none⟩ = some (.int .i64 0) := (obj_cell hr5 3).trans rfl
        have p3 := obj_frozen hr5 3
        have q4 : w5.cell? ⟨w.heap.size, 4, none⟩ = some (.int .i64 0) := (obj_cell hr5 4).trans rfl
        have p4 := obj_frozen hr5 4
        go_wp2
        refine r1dec_ret _ _ w.heap.size hr5 _ _ _ _ _ _ rfl rfl ⟨by rw [HD.out], ?_⟩
        exact bset (bset (bset (bset (bset (hBt.trans (hBf.mono hle)) _ (Nat.le_refl _) _) _ (Nat.le_refl _) _) _ (Nat.le_refl _) _) _ (Nat.le_refl _) _) _ (Nat.le_refl _) _
    · have t1 : decide ((k : Int) ≤ 65) = false := decide_eq_false (by omega)
      obtain rfl : k = 66 := by omega
      have HD := Lib.hid (decR_miss hd)
      have q0 : wr.cell? ⟨w.heap.size, 0, none⟩ = some (.int .i64 0) := (obj_cell hrr 0).trans rfl
      have p0 := obj_frozen hrr 0
      have q1 : wr.cell? ⟨w.heap.size, 1, none⟩ = some (.int .i64 0) := (obj_cell hrr 1).trans rfl
      have p1 := obj_frozen hrr 1
      have q2 : wr.cell? ⟨w.heap.size, 2, none⟩ = some (.int .i64 0) := (obj_cell hrr 2).trans rfl
      have p2 := obj_frozen hrr 2
      have q3 : wr.cell? ⟨w.heap.size, 3, none⟩ = some (.int .i64 0) := (obj_cell hrr 3).trans rfl
      have p3 := obj_frozen hrr 3
      have q4 : wr.cell? ⟨w.heap.size, 4, none⟩ = some (.int .i64 0) := (obj_cell hrr 4).trans rfl
      have p4 := obj_frozen hrr 4
      go_wp2
      have hX := obj_set (obj_set (obj_set (obj_set (obj_set hrr 0 (.int .i64 0)) 1 (.int .i64 0)) 2 (.int .i64 0)) 3 (.int .i64 0)) 4 (.int .i64 0)
      refine bodyPost_ret (v := .tuple #[.agg z5, .int .i64 10]) (results_dec _ rfl _ w.heap.size z5 _ (.int .i64 10) rfl rfl hX rfl) rfl ?_
      exact ⟨by unfold decV; rw [HD.out, ← z5_is], bset (bset (bset (bset (bset (hB1.trans (hB.mono hB1.size)) _ (Nat.le_refl _) _) _ (Nat.le_refl _) _) _ (Nat.le_refl _) _) _ (Nat.le_refl _) _) _ (Nat.le_refl _) _⟩
end Go.Proofs
