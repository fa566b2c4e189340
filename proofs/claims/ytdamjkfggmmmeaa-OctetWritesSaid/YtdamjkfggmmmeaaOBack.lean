/- A number is read back as it was put, between any other bytes (chapter 1, OctetBack). -/
import Derived.Test.YtdamjkfggmmmeaaOAwake
namespace Go.Proofs.Ytdamjkfggmmmeaa.OBack
open Go.RowKit Go.Proofs.YtdamjkfggmmmeaaW.PrintWords Go.Proofs.YtdamjkfggmmmeaaW.PrintLast Go.Proofs.YtdamjkfggmmmeaaW.PrintMore
open Octet (Rd stepF numN num)
open OAwake (byteAll Wn wn_new wn_num wn_raw wn_bytes num_at take_at same_is C_new awake_is)
set_option linter.unusedVariables false
set_option linter.unusedSimpArgs false
/-- 256 to the i. -/
def pw (i : Nat) : Int := 2 ^ (8 * i)
theorem pw_succ (i : Nat) : pw (i + 1) = pw i * 256 := by
  unfold pw; rw [show 8 * (i + 1) = 8 * i + 8 by omega, Int.pow_add]; rfl
theorem pw_pos (i : Nat) : 0 < pw i := by unfold pw; exact Int.pow_pos (by decide)
theorem pw_small (i : Nat) (h : i ≤ 7) : 1 ≤ pw i ∧ pw i ≤ 72057594037927936 := by
  have : i = 0 ∨ i = 1 ∨ i = 2 ∨ i = 3 ∨ i = 4 ∨ i = 5 ∨ i = 6 ∨ i = 7 := by omega
  rcases this with rfl | rfl | rfl | rfl | rfl | rfl | rfl | rfl <;> decide
theorem digs_fold (v : Int) : ∀ (j : Nat) (a : Int), (Writer.digs v j).foldl (fun v c => v * 256 + c) a = a * pw j + v % pw j := by
  intro j
  induction j with
  | zero => intro a; simp [Writer.digs, pw, Int.emod_one]
  | succ j ih =>
    intro a
    rw [Writer.digs, List.foldl_cons, ih, pw_succ]
    rw [show (2 : Int) ^ (8 * j) = pw j from rfl]
    have hp := pw_pos j
    obtain ⟨P, hP⟩ : ∃ P, pw j = P := ⟨_, rfl⟩
    rw [hP] at hp ⊢
    have h1 := Int.mul_ediv_add_emod v P
    have h2 := Int.emod_nonneg v (show P ≠ 0 by omega)
    have h3 := Int.emod_lt_of_pos v hp
    obtain ⟨q, hq⟩ : ∃ q, v / P = q := ⟨_, rfl⟩
    obtain ⟨r, hr⟩ : ∃ r, v % P = r := ⟨_, rfl⟩
    rw [hq, hr] at h1
    rw [hr] at h2 h3
    rw [hq, hr]
    have h4 := Int.mul_ediv_add_emod q 256
    obtain ⟨q1, hq1⟩ : ∃ q1, q / 256 = q1 := ⟨_, rfl⟩
    obtain ⟨q0, hq0⟩ : ∃ q0, q % 256 = q0 := ⟨_, rfl⟩
    have h5 : 0 ≤ q0 ∧ q0 < 256 := by omega
    rw [hq1, hq0] at h4
    rw [hq0]
    have h6 : v = (P * q0 + r) + (P * 256) * q1 := by
      rw [← h1, ← h4, Int.mul_add]
      rw [show P * (256 * q1) = P * 256 * q1 by rw [Int.mul_assoc]]
      omega
    have h7 : 0 ≤ P * q0 := Int.mul_nonneg (by omega) h5.1
    have h8 : P * q0 ≤ P * 255 := Int.mul_le_mul_of_nonneg_left (by omega) (by omega)
    have h9 : v % (P * 256) = P * q0 + r := by
      rw [h6, Int.add_mul_emod_self_left]
      exact Int.emod_eq_of_lt (by omega) (by omega)
    rw [h9, Int.add_mul, Int.mul_assoc, Int.mul_comm 256 P, Int.mul_comm q0 P]
    omega
theorem digs_num (v : Int) (j : Nat) (h0 : 0 ≤ v) (h1 : v < pw j) : num (Writer.digs v j) = v := by
  unfold num
  rw [digs_fold, Int.zero_mul, Int.zero_add]
  exact Int.emod_eq_of_lt h0 h1
theorem digs_bytes (v : Int) : ∀ j, byteAll (Writer.digs v j) := by
  intro j
  induction j with
  | zero => intro x hx; simp [Writer.digs] at hx
  | succ j ih =>
    intro x hx
    rw [Writer.digs] at hx
    rcases List.mem_cons.1 hx with rfl | h
    · omega
    · exact ih x h
set_option maxRecDepth 100000 in
theorem power_is (n : Nat) (hn : n ≤ 7) (w : World) : Calls Try.prog 47 #[.int .i64 (n : Int)] w fun e w' => e = .returned (.int .i64 (pw n)) ∧ w = w' := by
  have hn' := Aside0.mk hn
  clear hn
  go_enter Try.func47, Try.ntmps47
  go_wp2
  go_loopg [3, 4] (n + 1) (fun kq v3 v4 w' => ∃ (i : Nat) (p : Int), v3 = .int .i64 p ∧ v4 = .int .i64 (i : Int) ∧ Aside0 (p = pw i) ∧ Aside0 (i ≤ n) ∧ Aside0 (kq + i = n + 1) ∧ w' = w)
  case atStart => exact ⟨0, 1, rfl, rfl, ⟨rfl⟩, ⟨by omega⟩, ⟨by omega⟩, rfl⟩
  case round =>
    obtain ⟨i, p, rfl, rfl, hp, hi, hk, rfl⟩ := hrel
    rcases Nat.lt_or_ge i n with hlt | hge
    · have d0 : decide (i < n) = true := decide_eq_true (by omega)
      have HL := Aside0.mk hlt
      clear hlt
      obtain ⟨gk, rfl⟩ : ∃ m, gk = m + 1 := ⟨gk - 1, by have := hk.out; have := HL.out; omega⟩
      go_wp2
      go_roundg gk
      case measure => omega
      case rel =>
        refine ⟨i + 1, _, rfl, by first | rfl | (congr 1; have := HL.out; have := hn'.out; unfold wrap64; omega), ⟨?_⟩, ⟨by have := HL.out; omega⟩, ⟨by have := hk.out; omega⟩, rfl⟩
        have h2 := pw_small (i + 1) (by have := HL.out; have := hn'.out; omega)
        have h3 := pw_pos i
        rw [pw_succ] at h2 ⊢
        rw [hp.out]
        unfold wrap64; omega
    · have d0 : decide (i < n) = false := decide_eq_false (by omega)
      have hie : i = n := by have := hi.out; omega
      subst hie
      have hpp := hp.out
      subst hpp
      go_wp2
      go_ret
      exact ⟨rfl, rfl⟩
end Go.Proofs.Ytdamjkfggmmmeaa.OBack
