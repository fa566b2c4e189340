/- What the reference's sum (chapter 3) does: it goes bit by bit, and leaves memory alone. -/
import Derived.Test.YtdamjkfggmmmeacDoorCrc
import Derived.Lib.SlBytesConst
namespace Go.Proofs.YtdamjkfggmmmeacDoor.Crc
open Go.RowKit Go.Proofs.YtdamjkfggmmmeacDoorW.PrintWords Go.Proofs.YtdamjkfggmmmeacDoorW.PrintLast Go.Proofs.YtdamjkfggmmmeacDoorW.PrintMore
open CrcMath (takes run bits4 bits8 tab nib_run poly)
set_option linter.unusedVariables false
set_option linter.unusedSimpArgs false

theorem top_bit (R : BitVec 32) : R.msb = decide ((R.toNat : Int) / 2147483648 = 1) := by
  have := R.isLt
  rw [BitVec.msb_eq_decide, Bool.eq_iff_iff]; simp; omega
theorem step_same (R : BitVec 32) (b : Bool) (i : Int) (hb : b = decide (i = 1)) (hi : i = 0 ∨ i = 1) (h : (R.toNat : Int) / 2147483648 = i) : ((CrcMath.step R b).toNat : Int) = (R.toNat : Int) * 2 % 4294967296 := by
  have hR := R.isLt
  have : (R.msb ^^ b) = false := by rw [top_bit, hb, h]; cases decide (i = 1) <;> rfl
  simp only [CrcMath.step, this, Bool.false_eq_true, if_false, BitVec.xor_zero, BitVec.toNat_shiftLeft, Nat.shiftLeft_eq]
  omega
theorem step_other (R : BitVec 32) (b : Bool) (i : Int) (hb : b = decide (i = 1)) (hi : i = 0 ∨ i = 1) (h : (R.toNat : Int) / 2147483648 ≠ i) : ((CrcMath.step R b).toNat : Int) = bits .xor .u32 ((R.toNat : Int) * 2 % 4294967296) 79764919 := by
  have hR := R.isLt
  have : (R.msb ^^ b) = true := by
    rw [top_bit, hb]
    rcases hi with rfl | rfl
    · have : (R.toNat : Int) / 2147483648 = 1 := by omega
      rw [this]; rfl
    · rw [decide_eq_false h]; rfl
  have e : (R.toNat : Int) * 2 % 4294967296 = ((R.toNat * 2 % 4294967296 : Nat) : Int) := by omega
  rw [e, show (79764919 : Int) = ((79764919 : Nat) : Int) by rfl, xor_nat _ _ (by omega) (by omega)]
  simp only [CrcMath.step, this, if_true, BitVec.toNat_xor, BitVec.toNat_shiftLeft, Nat.shiftLeft_eq]
  rfl
def bitAt (c : Int) (i : Nat) : Int := c / 2 ^ i % 2
theorem bit_is (c : Int) (h0 : 0 ≤ c) (h1 : c ≤ 255) (i : Nat) (hi : i < 8) : (by8 c).getLsbD i = decide (bitAt c i = 1) := by
  have hc := by8_nat h0 h1
  rw [BitVec.getLsbD, Nat.testBit_eq_decide_div_mod_eq]
  obtain ⟨n, hn⟩ : ∃ n, n = (by8 c).toNat := ⟨_, rfl⟩
  rw [← hn] at hc ⊢
  have : ((n / 2 ^ i % 2 : Nat) : Int) = bitAt c i := by unfold bitAt; rw [← hc]; simp
  rw [← this, Bool.eq_iff_iff, decide_eq_true_iff, decide_eq_true_iff]
  omega
/-- The bits from the i-th down. -/
def down (c : Int) : Nat → List Bool
  | 0 => []
  | i + 1 => decide (bitAt c i = 1) :: down c i
theorem down8 (c : Int) (h0 : 0 ≤ c) (h1 : c ≤ 255) : bits8 (by8 c) = down c 8 := by
  rw [CrcMath.bits8_eq]
  simp only [down, bit_is c h0 h1 _ (show 0 < 8 by omega), bit_is c h0 h1 _ (show 1 < 8 by omega), bit_is c h0 h1 _ (show 2 < 8 by omega), bit_is c h0 h1 _ (show 3 < 8 by omega), bit_is c h0 h1 _ (show 4 < 8 by omega), bit_is c h0 h1 _ (show 5 < 8 by omega), bit_is c h0 h1 _ (show 6 < 8 by omega), bit_is c h0 h1 _ (show 7 < 8 by omega)]
theorem bitAt_01 (c : Int) (i : Nat) : bitAt c i = 0 ∨ bitAt c i = 1 := by unfold bitAt; omega
set_option maxRecDepth 100000 in
set_option maxHeartbeats 4000000 in
theorem bits_is (r : BitVec 32) (c : Int) (w : World) (h0 : 0 ≤ c) (h1 : c ≤ 255) :
    Calls Tryd.prog 15 #[.int .u32 (r.toNat : Int), .int .u8 c] w fun e w' => e = .returned (.int .u32 ((run r (bits8 (by8 c))).toNat : Int)) ∧ w = w' := by
  rw [down8 c h0 h1]
  obtain ⟨D, hD⟩ : ∃ D, D = run r (down c 8) := ⟨_, rfl⟩
  rw [← hD]
  have HD := Aside0.mk hD
  clear hD
  go_enter Tryd.func15, Tryd.ntmps15
  go_wp2
  go_loopg [0, 5] 9 (fun kq v0 v5 w' => ∃ (j : Nat) (R : BitVec 32), v0 = .int .u32 (R.toNat : Int) ∧ v5 = .int .i64 ((j : Int) - 1) ∧ Aside0 (j ≤ 8) ∧ Aside0 (kq = j + 1) ∧ Aside0 (run R (down c j) = D) ∧ w' = w)
  case atStart => exact ⟨8, r, rfl, rfl, ⟨by omega⟩, ⟨rfl⟩, ⟨HD.out.symm⟩, rfl⟩
  case round =>
    obtain ⟨j, R, rfl, rfl, hj, hk, HR, rfl⟩ := hrel
    cases j with
    | zero =>
      have hd : R = D := HR.out
      rw [hd]
      clear hd HR HD
      go_wp2
      go_ret
      exact ⟨rfl, rfl⟩
    | succ i =>
      have hR := R.isLt
      have hk := hk.out
      subst hk
      have hi : i = 0 ∨ i = 1 ∨ i = 2 ∨ i = 3 ∨ i = 4 ∨ i = 5 ∨ i = 6 ∨ i = 7 := by have := hj.out; omega
      have hb := bitAt_01 c i
      have e1 := step_same R (decide (bitAt c i = 1)) (bitAt c i) rfl hb
      have e2 := step_other R (decide (bitAt c i = 1)) (bitAt c i) rfl hb
      have E1 := Aside0.mk e1
      have E2 := Aside0.mk e2
      have HR' : Aside0 (run (CrcMath.step R (decide (bitAt c i = 1))) (down c i) = D) := HR
      obtain ⟨S, hS⟩ : ∃ S, S = CrcMath.step R (decide (bitAt c i = 1)) := ⟨_, rfl⟩
      rw [← hS] at E1 E2 HR'
      clear e1 e2 HR hb hS
      obtain ⟨q, hq⟩ : ∃ q : Int, q = (R.toNat : Int) := ⟨_, rfl⟩
      have hq0 : 0 ≤ q ∧ q < 4294967296 := by omega
      rw [← hq] at E1 E2 ⊢
      clear hR hq
      rcases hi with rfl | rfl | rfl | rfl | rfl | rfl | rfl | rfl
      · simp only [bitAt, Int.reducePow] at E1 E2
        go_wp2
        · rename_i hs
          have e := E2.out (by simpa using hs)
          clear hs E1 E2
          go_roundg 1
          case measure => omega
          case rel => exact ⟨0, S, by rw [e], by rfl, ⟨by omega⟩, ⟨rfl⟩, HR', rfl⟩
        · rename_i hs
          have e := E1.out (by simpa using hs)
          clear hs E1 E2
          go_roundg 1
          case measure => omega
          case rel => exact ⟨0, S, by rw [e], by rfl, ⟨by omega⟩, ⟨rfl⟩, HR', rfl⟩
      · simp only [bitAt, Int.reducePow] at E1 E2
        go_wp2
        · rename_i hs
          have e := E2.out (by simpa using hs)
          clear hs E1 E2
          go_roundg 2
          case measure => omega
          case rel => exact ⟨1, S, by rw [e], by rfl, ⟨by omega⟩, ⟨rfl⟩, HR', rfl⟩
        · rename_i hs
          have e := E1.out (by simpa using hs)
          clear hs E1 E2
          go_roundg 2
          case measure => omega
          case rel => exact ⟨1, S, by rw [e], by rfl, ⟨by omega⟩, ⟨rfl⟩, HR', rfl⟩
      · simp only [bitAt, Int.reducePow] at E1 E2
        go_wp2
        · rename_i hs
          have e := E2.out (by simpa using hs)
          clear hs E1 E2
          go_roundg 3
          case measure => omega
          case rel => exact ⟨2, S, by rw [e], by rfl, ⟨by omega⟩, ⟨rfl⟩, HR', rfl⟩
        · rename_i hs
          have e := E1.out (by simpa using hs)
          clear hs E1 E2
          go_roundg 3
          case measure => omega
          case rel => exact ⟨2, S, by rw [e], by rfl, ⟨by omega⟩, ⟨rfl⟩, HR', rfl⟩
      · simp only [bitAt, Int.reducePow] at E1 E2
        go_wp2
        · rename_i hs
          have e := E2.out (by simpa using hs)
          clear hs E1 E2
          go_roundg 4
          case measure => omega
          case rel => exact ⟨3, S, by rw [e], by rfl, ⟨by omega⟩, ⟨rfl⟩, HR', rfl⟩
        · rename_i hs
          have e := E1.out (by simpa using hs)
          clear hs E1 E2
          go_roundg 4
          case measure => omega
          case rel => exact ⟨3, S, by rw [e], by rfl, ⟨by omega⟩, ⟨rfl⟩, HR', rfl⟩
      · simp only [bitAt, Int.reducePow] at E1 E2
        go_wp2
        · rename_i hs
          have e := E2.out (by simpa using hs)
          clear hs E1 E2
          go_roundg 5
          case measure => omega
          case rel => exact ⟨4, S, by rw [e], by rfl, ⟨by omega⟩, ⟨rfl⟩, HR', rfl⟩
        · rename_i hs
          have e := E1.out (by simpa using hs)
          clear hs E1 E2
          go_roundg 5
          case measure => omega
          case rel => exact ⟨4, S, by rw [e], by rfl, ⟨by omega⟩, ⟨rfl⟩, HR', rfl⟩
      · simp only [bitAt, Int.reducePow] at E1 E2
        go_wp2
        · rename_i hs
          have e := E2.out (by simpa using hs)
          clear hs E1 E2
          go_roundg 6
          case measure => omega
          case rel => exact ⟨5, S, by rw [e], by rfl, ⟨by omega⟩, ⟨rfl⟩, HR', rfl⟩
        · rename_i hs
          have e := E1.out (by simpa using hs)
          clear hs E1 E2
          go_roundg 6
          case measure => omega
          case rel => exact ⟨5, S, by rw [e], by rfl, ⟨by omega⟩, ⟨rfl⟩, HR', rfl⟩
      · simp only [bitAt, Int.reducePow] at E1 E2
        go_wp2
        · rename_i hs
          have e := E2.out (by simpa using hs)
          clear hs E1 E2
          go_roundg 7
          case measure => omega
          case rel => exact ⟨6, S, by rw [e], by rfl, ⟨by omega⟩, ⟨rfl⟩, HR', rfl⟩
        · rename_i hs
          have e := E1.out (by simpa using hs)
          clear hs E1 E2
          go_roundg 7
          case measure => omega
          case rel => exact ⟨6, S, by rw [e], by rfl, ⟨by omega⟩, ⟨rfl⟩, HR', rfl⟩
      · simp only [bitAt, Int.reducePow] at E1 E2
        go_wp2
        · rename_i hs
          have e := E2.out (by simpa using hs)
          clear hs E1 E2
          go_roundg 8
          case measure => omega
          case rel => exact ⟨7, S, by rw [e], by rfl, ⟨by omega⟩, ⟨rfl⟩, HR', rfl⟩
        · rename_i hs
          have e := E1.out (by simpa using hs)
          clear hs E1 E2
          go_roundg 8
          case measure => omega
          case rel => exact ⟨7, S, by rw [e], by rfl, ⟨by omega⟩, ⟨rfl⟩, HR', rfl⟩
theorem last_int (r : BitVec 32) : bits .xor .u32 (r.toNat : Int) 4294967295 = ((~~~r).toNat : Int) := by
  rw [← not_int, show IntKind.u32.max = ((4294967295 : Nat) : Int) by decide, show (4294967295 : Int) = ((4294967295 : Nat) : Int) by rfl, xor_nat _ _ r.isLt (by omega), xor_nat _ _ (by omega) r.isLt, Nat.xor_comm]
set_option maxRecDepth 100000 in
set_option maxHeartbeats 4000000 in
theorem sum_is (A : Option Addr) (l : List Int) (c : Nat) (w : World) (hr : Kd.C (Kd.int .u8) w A l.length l) (hb : ∀ x ∈ l, 0 ≤ x ∧ x ≤ 255) :
    Calls Tryd.prog 9 #[.slice A l.length c] w fun e w' => e = .returned (.int .u32 (sumF l)) ∧ w = w' := by
  have hm := hr.2.1
  have HC := Aside0.mk hr
  have HB := Aside0.mk hb
  clear hr hb
  go_enter Tryd.func9, Tryd.ntmps9
  go_wp2
  rw [← ones_int]
  go_loopg [3, 4] (l.length + 1) (fun kq v3 v4 w' => ∃ i : Nat, v3 = .int .u32 ((takeF ones (l.take i)).toNat : Int) ∧ v4 = .int .i64 (i : Int) ∧ Aside0 (i ≤ l.length) ∧ Aside0 (kq + i = l.length + 1) ∧ w' = w)
  case atStart => exact ⟨0, rfl, rfl, ⟨by omega⟩, ⟨by omega⟩, rfl⟩
  case round =>
    obtain ⟨i, rfl, rfl, hi, hk, rfl⟩ := hrel
    rcases Nat.lt_or_ge i l.length with hlt | hge
    · obtain ⟨ad, cc, rfl, hcl, hK, hcell⟩ := Kd.C_get HC.out (0 : Int) (i : Int) (by omega) (by omega)
      obtain rfl : cc = [Value.int .u8 (l.getD (i : Int).toNat 0)] := hK
      have hx := hcell 0 _ rfl
      have hq : (l.getD (i : Int).toNat 0) = l[i] := by simp [hlt]
      rw [hq] at hx
      simp only [Int.toNat_natCast, Kd.int, Kd.scalar, Nat.mul_one, Nat.add_zero] at hx
      have d0 : decide ((i : Int) < (l.length : Int)) = true := decide_eq_true (by omega)
      obtain ⟨c0, c1⟩ := HB.out l[i] (List.getElem_mem hlt)
      have HT := Lib.hid (bits_is (takeF ones (l.take i)) l[i] wr c0 c1)
      have hsn : takeF ones (l.take (i + 1)) = run (takeF ones (l.take i)) (bits8 (by8 l[i])) := by
        rw [show l.take (i + 1) = l.take i ++ [l[i]] by simp [List.take_append_getElem], takeF_snoc]
      rw [← hsn] at HT
      clear hcell hcl hq hsn
      obtain ⟨gk, rfl⟩ : ∃ m, gk = m + 1 := ⟨gk - 1, by have := hk.out; omega⟩
      go_wp2_with fail
      refine HT.out.mono ?_
      rintro e w' ⟨rfl, rfl⟩
      go_wp2
      go_roundg gk
      case measure => omega
      case rel =>
        exact ⟨i + 1, rfl, by simp, ⟨by omega⟩, ⟨by have := hk.out; omega⟩, rfl⟩
    · have d0 : decide (i < l.length) = false := decide_eq_false (by omega)
      have hie : i = l.length := by have := hi.out; omega
      have htk : l.take i = l := by rw [hie, List.take_length]
      clear hge hie
      rw [htk]
      clear htk
      go_wp2
      go_ret
      exact ⟨ret_u32 (last_int _), rfl⟩

def digits9 : List Int := [49, 50, 51, 52, 53, 54, 55, 56, 57]
theorem digits9_sum : sumF digits9 = 4236843288 := by decide +kernel
set_option maxRecDepth 100000 in
set_option maxHeartbeats 4000000 in
theorem awake_is (w : World) (hL : Laid w) : Calls Tryd.prog 4 #[] w fun e w' => e = .returned (.bool true) ∧ Below w.heap.size w w' := by
  have kc := fun (C : Array Value) (n c : Nat) => Lib.run_convert_bytes_const (P := Tryd.prog) w 27 5 C n c Tryd.underlying27 Tryd.underlying5
  obtain ⟨W1, hW1⟩ : ∃ W1, W1 = w.alloc (.cells #[.int .u8 49, .int .u8 50, .int .u8 51, .int .u8 52, .int .u8 53, .int .u8 54, .int .u8 55, .int .u8 56, .int .u8 57] 5 (9, 10)) := ⟨_, rfl⟩
  have hs1 : W1.heap.size = w.heap.size + 1 := by rw [hW1]; simp
  have hb1 : Below w.heap.size w W1 := by rw [hW1]; exact (Below.refl _ _).alloc (Nat.le_refl _) _
  have hg1 : W1.heap[w.heap.size]? = some (.cells (digits9.map (Value.int .u8)).toArray 5 (9, 10)) := by rw [hW1]; exact heap_alloc_new w _
  obtain ⟨W2, hW2⟩ : ∃ W2, W2 = W1.alloc (.cells #[.slice (some ⟨w.heap.size, 0, none⟩) 9 9] 27) := ⟨_, rfl⟩
  have hb2 : Below w.heap.size w W2 := by rw [hW2]; exact hb1.alloc (by omega) _
  have hg2 : W2.heap[w.heap.size + 1]? = some (.cells #[.slice (some ⟨w.heap.size, 0, none⟩) digits9.length 9] 27 (0, 0)) := by rw [hW2, ← hs1]; exact heap_alloc_new W1 _
  have hg3 : W2.heap[w.heap.size]? = some (.cells (digits9.map (Value.int .u8)).toArray 5 (9, 10)) := by rw [hW2]; exact blk_alloc hg1 _
  have HT := Lib.hid (of_is (some ⟨w.heap.size + 1, 0, none⟩) [digits9] 1 W2 (hL.below hb2 hL.lt) (C_one hg2 (C_bytes hg3 (by decide)) (by decide)) (by decide))
  rw [show [digits9].flatten = digits9 by simp, digits9_sum] at HT
  have HH := Lib.hid hb2
  rw [hW1] at hW2
  have hW2' := hW2.symm
  clear hg1 hg2 hg3 hb1 hb2 hs1 hW1 hL hW2
  go_enter Tryd.func4, Tryd.ntmps4
  go_wp2_with (go_at_call 10; refine HT.out.mono ?_; rintro e w' ⟨rfl, rfl⟩)
  go_ret
  exact ⟨rfl, HH.out⟩
end Go.Proofs.YtdamjkfggmmmeacDoor.Crc
