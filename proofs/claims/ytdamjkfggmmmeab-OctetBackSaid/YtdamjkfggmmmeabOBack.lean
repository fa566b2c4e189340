/- A number is read back as it was put, between any other bytes (chapter 1, OctetBack). -/
import Derived.Test.YtdamjkfggmmmeabOAwake
namespace Go.Proofs.Ytdamjkfggmmmeab.OBack
open Go.RowKit Go.Proofs.YtdamjkfggmmmeabW.PrintWords Go.Proofs.YtdamjkfggmmmeabW.PrintLast Go.Proofs.YtdamjkfggmmmeabW.PrintMore
open Octet (Rd stepF numN num)
open OAwake (byteAll Wn wn_new wn_num wn_raw wn_bytes num_at take_at same_is C_new awake_is)
set_option linter.unusedVariables false
set_option linter.unusedSimpArgs false
/-- 256 to the i. -/
def pw (i : Nat) : Int := 2 ^ (8 * i)
theorem pw_succ (i : Nat) : pw (i + 1) = pw i * 256 := by
  unfold pw; rw [show 8 * (i + 1) = 8 * i + 8 by omega, Int.pow_add]; rfl
theorem pw_pos (i : Nat) : 0 < pw i := by unfold pw; exact Int.pow_pos (by decide)
theorem pw_small (i : Nat) (h : i ≤ 7) : 1 ≤ pw i ∧ pw i ≤ 72057594037927936 := by
  have : i = 0 ∨ i = 1 ∨ i = 2 ∨ i = 3 ∨ i = 4 ∨ i = 5 ∨ i = 6 ∨ i = 7 := by omega
  rcases this with rfl | rfl | rfl | rfl | rfl | rfl | rfl | rfl <;> decide
theorem digs_fold (v : Int) : ∀ (j : Nat) (a : Int), (Writer.digs v j).foldl (fun v c => v * 256 + c) a = a * pw j + v % pw j := by
  intro j
  induction j with
  | zero => intro a; simp [Writer.digs, pw, Int.emod_one]
  | succ j ih =>
    intro a
    rw [Writer.digs, List.foldl_cons, ih, pw_succ]
    rw [show (2 : Int) ^ (8 * j) = pw j from rfl]
    have hp := pw_pos j
    obtain ⟨P, hP⟩ : ∃ P, pw j = P := ⟨_, rfl⟩
    rw [hP] at hp ⊢
    have h1 := Int.mul_ediv_add_emod v P
    have h2 := Int.emod_nonneg v (show P ≠ 0 by omega)
    have h3 := Int.emod_lt_of_pos v hp
    obtain ⟨q, hq⟩ : ∃ q, v / P = q := ⟨_, rfl⟩
    obtain ⟨r, hr⟩ : ∃ r, v % P = r := ⟨_, rfl⟩
    rw [hq, hr] at h1
    rw [hr] at h2 h3
    rw [hq, hr]
    have h4 := Int.mul_ediv_add_emod q 256
    obtain ⟨q1, hq1⟩ : ∃ q1, q / 256 = q1 := ⟨_, rfl⟩
    obtain ⟨q0, hq0⟩ : ∃ q0, q % 256 = q0 := ⟨_, rfl⟩
    have h5 : 0 ≤ q0 ∧ q0 < 256 := by omega
    rw [hq1, hq0] at h4
    rw [hq0]
    have h6 : v = (P * q0 + r) + (P * 256) * q1 := by
      rw [← h1, ← h4, Int.mul_add]
      rw [show P * (256 * q1) = P * 256 * q1 by rw [Int.mul_assoc]]
      omega
    have h7 : 0 ≤ P * q0 := Int.mul_nonneg (by omega) h5.1
    have h8 : P * q0 ≤ P * 255 := Int.mul_le_mul_of_nonneg_left (by omega) (by omega)
    have h9 : v % (P * 256) = P * q0 + r := by
      rw [h6, Int.add_mul_emod_self_left]
      exact Int.emod_eq_of_lt (by omega) (by omega)
    rw [h9, Int.add_mul, Int.mul_assoc, Int.mul_comm 256 P, Int.mul_comm q0 P]
    omega
theorem digs_num (v : Int) (j : Nat) (h0 : 0 ≤ v) (h1 : v < pw j) : num (Writer.digs v j) = v := by
  unfold num
  rw [digs_fold, Int.zero_mul, Int.zero_add]
  exact Int.emod_eq_of_lt h0 h1
theorem digs_bytes (v : Int) : ∀ j, byteAll (Writer.digs v j) := by
  intro j
  induction j with
  | zero => intro x hx; simp [Writer.digs] at hx
  | succ j ih =>
    intro x hx
    rw [Writer.digs] at hx
    rcases List.mem_cons.1 hx with rfl | h
    · omega
    · exact ih x h
set_option maxRecDepth 100000 in
theorem power_is (n : Nat) (hn : n ≤ 7) (w : World) : Calls Try.prog 10 #[.int .i64 (n : Int)] w fun e w' => e = .returned (.int .i64 (pw n)) ∧ w = w' := by
  have hn' := Aside0.mk hn
  clear hn
  go_enter Try.func10, Try.ntmps10
  go_wp2
  go_loopg [3, 4] (n + 1) (fun kq v3 v4 w' => ∃ (i : Nat) (p : Int), v3 = .int .i64 p ∧ v4 = .int .i64 (i : Int) ∧ Aside0 (p = pw i) ∧ Aside0 (i ≤ n) ∧ Aside0 (kq + i = n + 1) ∧ w' = w)
  case atStart => exact ⟨0, 1, rfl, rfl, ⟨rfl⟩, ⟨by omega⟩, ⟨by omega⟩, rfl⟩
  case round =>
    obtain ⟨i, p, rfl, rfl, hp, hi, hk, rfl⟩ := hrel
    rcases Nat.lt_or_ge i n with hlt | hge
    · have d0 : decide (i < n) = true := decide_eq_true (by omega)
      have HL := Aside0.mk hlt
      clear hlt
      obtain ⟨gk, rfl⟩ : ∃ m, gk = m + 1 := ⟨gk - 1, by have := hk.out; have := HL.out; omega⟩
      go_wp2
      go_roundg gk
      case measure => omega
      case rel =>
        refine ⟨i + 1, _, rfl, by first | rfl | (congr 1; have := HL.out; have := hn'.out; unfold wrap64; omega), ⟨?_⟩, ⟨by have := HL.out; omega⟩, ⟨by have := hk.out; omega⟩, rfl⟩
        have h2 := pw_small (i + 1) (by have := HL.out; have := hn'.out; omega)
        have h3 := pw_pos i
        rw [pw_succ] at h2 ⊢
        rw [hp.out]
        unfold wrap64; omega
    · have d0 : decide (i < n) = false := decide_eq_false (by omega)
      have hie : i = n := by have := hi.out; omega
      subst hie
      have hpp := hp.out
      subst hpp
      go_wp2
      go_ret
      exact ⟨rfl, rfl⟩
set_option maxRecDepth 100000 in
set_option maxHeartbeats 4000000 in
theorem back_in (A : Option Addr) (l : List Int) (c n : Nat) (v : Int) (w : World) (hr : Kd.C (Kd.int .u8) w A l.length l) (hb : byteAll l) (hl : l.length ≤ 100) (h1 : 1 ≤ n) (h7 : n ≤ 7) (h0 : 0 ≤ v) (hv : v < pw n) :
    Calls Try.prog 3 #[.slice A l.length c, .int .i64 (n : Int), .int .i64 v] w fun e w' => e = .returned (.bool true) ∧ Below w.heap.size w w' := by
  have HP := Lib.hid (power_is n h7 w)
  obtain ⟨P, hP⟩ : ∃ P, pw n = P := ⟨_, rfl⟩
  rw [hP] at HP
  have c1 : decide (P ≤ v) = false := decide_eq_false (by omega)
  have n1 : decide ((n : Int) < 1) = false := decide_eq_false (by omega)
  have n7 : decide ((7 : Int) < n) = false := decide_eq_false (by omega)
  have v0 : decide (v < 0) = false := decide_eq_false (by omega)
  have l1 : decide ((100 : Int) < l.length) = false := decide_eq_false (by omega)
  have HC := Aside0.mk hr
  have HB := Aside0.mk hb
  have HL := Aside0.mk hl
  have HN := Aside0.mk (And.intro h1 h7)
  have HV := Aside0.mk (And.intro h0 hv)
  have HP' := Aside0.mk hP
  have hnot : ∀ (x : Bool) (w : World), (Op.unary .not (.bool x)).run Try.prog w = .ok (.bool (!x)) w := fun _ _ => rfl
  clear hr hb hl h1 h7 h0 hv hP
  go_enter Try.func3, Try.ntmps3
  go_wp2_with fail
  refine HP.out.mono ?_
  rintro e w1 ⟨rfl, rfl⟩
  go_wp2_with fail
  refine (wn_new w).mono ?_
  rintro e w1 ⟨g, rfl, hW⟩
  have HW1 := Aside0.mk hW
  have HC1 := Aside0.mk (Kd.C_below HC.out hW.2)
  clear hW
  go_wp2_with fail
  refine (wn_raw w g _ A l c w1 HW1.out HC1.out (by have := HL.out; simp; omega)).mono ?_
  rintro e w2 ⟨rfl, hW⟩
  rw [show Writer.rawW ⟨[], false⟩ l = ⟨l, false⟩ by rfl] at hW
  have HW2 := Aside0.mk hW
  clear hW HW1 HC1
  go_wp2_with fail
  refine (wn_num w g _ n v w2 HW2.out (by have := HL.out; show l.length ≤ _; omega)).mono ?_
  rintro e w3 ⟨rfl, hW⟩
  have hf : Writer.fitsB n v = true := by
    have := HN.out; have := HV.out; have := HP'.out
    unfold Writer.fitsB
    rw [Int.toNat_natCast, show (2 : Int) ^ (8 * n) = pw n from rfl]
    exact decide_eq_true (by omega)
  rw [show Writer.numW ⟨l, false⟩ n v = ⟨l ++ Writer.digs v n, false⟩ by unfold Writer.numW; rw [if_neg (by simp), if_pos hf, Int.toNat_natCast]] at hW
  have HW3 := Aside0.mk hW
  clear hW HW2 hf
  go_wp2_with fail
  have hC3 := C_new w3 [7] _ rfl (by decide)
  refine (wn_raw w g _ (some ⟨w3.heap.size, 0, none⟩) [7] 1 _ (HW3.out.alloc _) hC3 (by have := HL.out; have := HN.out; simp [Writer.digs_len]; omega)).mono ?_
  rintro e w4 ⟨rfl, hW⟩
  obtain ⟨L, hL⟩ : ∃ L, l ++ Writer.digs v n ++ [7] = L := ⟨_, rfl⟩
  rw [show Writer.rawW ⟨l ++ Writer.digs v n, false⟩ [7] = ⟨L, false⟩ by rw [← hL]; rfl] at hW
  have hLl : L.length = l.length + n + 1 := by rw [← hL]; simp [Writer.digs_len]; omega
  have HL2 := Aside0.mk (And.intro hL hLl)
  have HW4 := Aside0.mk hW
  clear hW HW3 hC3 hL hLl
  go_wp2_with fail
  refine (wn_bytes w g ⟨L, false⟩ w4 HW4.out (by have := HL.out; have := HN.out; have := HL2.out.2; show L.length ≤ _; omega)).mono ?_
  rintro e w5 ⟨Ab, cb, rfl, hR, hB⟩
  simp only [Bool.false_eq_true, if_false] at hR
  have HR5 := Aside0.mk hR
  have HB5 := Aside0.mk hB
  clear hR hB HW4
  have lw : wrap64 (wrap64 ((l.length : Int) + n) + 1) = (L.length : Int) := by
    have := HL.out; have := HN.out; have := HL2.out.2; unfold wrap64; omega
  go_wp2_with fail
  refine (Octet.read_new Ab L cb w5 (Kd.R_reads' HR5.out).2.2 (by have := HL.out; have := HN.out; have := HL2.out.2; omega)).mono ?_
  rintro e w6 ⟨g2, ob, rfl, i1, i2, i3, i4, i5, i6⟩
  have hI6 := Aside0.mk (⟨i1, i2, Nat.ne_of_lt i5, Nat.zero_le _, by have := HL.out; have := HN.out; have := HL2.out.2; show L.length ≤ _; omega⟩ : Octet.Is w6 g2 ob ⟨L, 0, false⟩)
  have hB6 := Aside0.mk (HB5.out.trans (Octet.below_le i6 HB5.out.size))
  have hg := Aside0.mk (show w.heap.size ≤ g2 by have := HB5.out.size; omega)
  clear i1 i2 i3 i4 i5 i6 HR5 HB5 lw
  go_wp2_with fail
  refine (take_at g2 ob L 0 (l.length : Int) w6 hI6.out (by omega) (by have := HL2.out.2; omega)).mono ?_
  rintro e w7 ⟨u, rfl, k1, k2, k3, k4⟩
  have hcut : (L.drop 0).take (l.length : Int).toNat = l := by rw [← HL2.out.1]; simp
  rw [hcut] at k1
  rw [show 0 + (l.length : Int).toNat = l.length by omega] at k2
  obtain ⟨Au, cu, rfl⟩ := Kd.R_slice k1
  have hI7 := Aside0.mk k2
  have hB7 := Aside0.mk (hB6.out.trans (k4 _ hg.out hB6.out.size))
  have hC7 := Aside0.mk (Kd.R_reads' k1).2.2
  clear k1 k2 k3 k4 hI6 hB6 hcut
  go_wp2_with fail
  refine (same_is Au A l l cu c w7 hC7.out (Kd.C_below HC.out hB7.out)).mono ?_
  rintro e w8 ⟨rfl, ⟨m, rfl⟩⟩
  rw [show ((strOfNums l).toList == (strOfNums l).toList) = true by simp]
  have hI8 := Aside0.mk (hI7.out.drewN m)
  have hB8 := Aside0.mk (pw_below_drewN hB7.out m)
  generalize w7.drewN m = w8 at hI8 hB8 ⊢
  clear hI7 hB7 hC7
  have hLb := Aside0.mk (show byteAll L by
    rw [← HL2.out.1]; intro x hx
    rcases List.mem_append.1 hx with hx | hx
    · rcases List.mem_append.1 hx with hx | hx
      · exact HB.out x hx
      · exact digs_bytes v n x hx
    · simp at hx; omega)
  have hnum := Aside0.mk (show num ((L.drop l.length).take (n : Int).toNat) = v by
    rw [← HL2.out.1, List.append_assoc, List.drop_left, Int.toNat_natCast, List.take_left' (Writer.digs_len v n)]
    have := HV.out
    exact digs_num v n (by omega) (by omega))
  have hnum1 := Aside0.mk (show num ((L.drop (l.length + n)).take (1 : Int).toNat) = 7 by
    rw [← HL2.out.1, List.drop_left' (by simp [Writer.digs_len])]; rfl)
  go_wp2_with fail
  refine (num_at g2 ob L l.length (n : Int) v w8 hI8.out (by have := HN.out; omega) (by have := HN.out; omega) (by have := HL2.out.2; omega) hLb.out hnum.out).mono ?_
  rintro e w9 ⟨rfl, j1, j2, j3⟩
  rw [Int.toNat_natCast] at j1
  have hI9 := Aside0.mk j1
  have hB9 := Aside0.mk (hB8.out.trans (j3 _ hg.out))
  clear j1 j2 j3 hI8 hB8 hnum
  go_wp2_with fail
  refine (num_at g2 ob L (l.length + n) 1 7 w9 hI9.out (by decide) (by decide) (by have := HL2.out.2; omega) hLb.out hnum1.out).mono ?_
  rintro e w10 ⟨rfl, j1, j2, j3⟩
  have hI10 := Aside0.mk j1
  have hB10 := Aside0.mk (hB9.out.trans (j3 _ hg.out))
  clear j1 j2 j3 hI9 hB9 hnum1
  go_wp2_with fail
  refine (Octet.done_is g2 ob _ w10 hI10.out).mono ?_
  rintro e w11 ⟨rfl, m, rfl⟩
  rw [show ((!(false : Bool)) && decide (L.length = l.length + n + (1 : Int).toNat)) = true by have := HL2.out.2; simp; omega]
  have hB11 := Aside0.mk (pw_below_drewN hB10.out m)
  generalize w10.drewN m = w11 at hB11 ⊢
  clear hI10 hB10
  go_wp2_with fail
  go_ret
  exact ⟨rfl, hB11.out⟩
set_option maxRecDepth 100000 in
set_option maxHeartbeats 4000000 in
theorem back_all (A : Option Addr) (l : List Int) (c : Nat) (n v : Int) (w : World) (hr : Kd.C (Kd.int .u8) w A l.length l) (hb : byteAll l) :
    Calls Try.prog 3 #[.slice A l.length c, .int .i64 n, .int .i64 v] w fun e w' => e = .returned (.bool true) ∧ Below w.heap.size w w' := by
  have HA := Lib.hid (awake_is w)
  by_cases c1 : l.length ≤ 100
  · by_cases c2 : 1 ≤ n
    · by_cases c3 : n ≤ 7
      · obtain ⟨m, rfl⟩ := Int.eq_ofNat_of_zero_le (show 0 ≤ n by omega)
        by_cases c4 : 0 ≤ v
        · by_cases c5 : v < pw m
          · exact back_in A l c m v w hr hb c1 (by omega) (by omega) c4 c5
          · have HP := Lib.hid (power_is m (by omega) w)
            obtain ⟨P, hP⟩ : ∃ P, pw m = P := ⟨_, rfl⟩
            rw [hP] at HP
            have l1 : decide ((100 : Int) < l.length) = false := decide_eq_false (by omega)
            have n1 : decide ((m : Int) < 1) = false := decide_eq_false (by omega)
            have n7 : decide ((7 : Int) < m) = false := decide_eq_false (by omega)
            have v0 : decide (v < 0) = false := decide_eq_false (by omega)
            have p1 : decide (P ≤ v) = true := decide_eq_true (by omega)
            clear hr hb c1 c2 c3 c4 c5 hP
            go_enter Try.func3, Try.ntmps3
            go_wp2_with fail
            refine HP.out.mono ?_
            rintro e w1 ⟨rfl, rfl⟩
            go_wp2_with fail
            refine HA.out.mono ?_
            rintro e w1 ⟨rfl, hB⟩
            have HB := Aside0.mk hB
            clear hB
            go_wp2_with fail
            go_ret
            exact ⟨rfl, HB.out⟩
        · have l1 : decide ((100 : Int) < l.length) = false := decide_eq_false (by omega)
          have n1 : decide ((m : Int) < 1) = false := decide_eq_false (by omega)
          have n7 : decide ((7 : Int) < m) = false := decide_eq_false (by omega)
          have v0 : decide (v < 0) = true := decide_eq_true (by omega)
          clear hr hb c1 c2 c3 c4
          go_enter Try.func3, Try.ntmps3
          go_wp2_with fail
          refine HA.out.mono ?_
          rintro e w1 ⟨rfl, hB⟩
          have HB := Aside0.mk hB
          clear hB
          go_wp2_with fail
          go_ret
          exact ⟨rfl, HB.out⟩
      · have l1 : decide ((100 : Int) < l.length) = false := decide_eq_false (by omega)
        have n1 : decide (n < 1) = false := decide_eq_false (by omega)
        have n7 : decide (7 < n) = true := decide_eq_true (by omega)
        clear hr hb c1 c2 c3
        go_enter Try.func3, Try.ntmps3
        go_wp2_with fail
        refine HA.out.mono ?_
        rintro e w1 ⟨rfl, hB⟩
        have HB := Aside0.mk hB
        clear hB
        go_wp2_with fail
        go_ret
        exact ⟨rfl, HB.out⟩
    · have l1 : decide ((100 : Int) < l.length) = false := decide_eq_false (by omega)
      have n1 : decide (n < 1) = true := decide_eq_true (by omega)
      clear hr hb c1 c2
      go_enter Try.func3, Try.ntmps3
      go_wp2_with fail
      refine HA.out.mono ?_
      rintro e w1 ⟨rfl, hB⟩
      have HB := Aside0.mk hB
      clear hB
      go_wp2_with fail
      go_ret
      exact ⟨rfl, HB.out⟩
  · have l1 : decide ((100 : Int) < l.length) = true := decide_eq_true (by omega)
    clear hr hb c1
    go_enter Try.func3, Try.ntmps3
    go_wp2_with fail
    refine HA.out.mono ?_
    rintro e w1 ⟨rfl, hB⟩
    have HB := Aside0.mk hB
    clear hB
    go_wp2_with fail
    go_ret
    exact ⟨rfl, HB.out⟩
end Go.Proofs.Ytdamjkfggmmmeab.OBack
