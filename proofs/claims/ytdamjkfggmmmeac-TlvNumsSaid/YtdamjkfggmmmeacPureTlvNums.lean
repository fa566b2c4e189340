/- Plain laws of items, and what they come to. -/
import Derived.Test.YtdamjkfggmmmeacPTox4
namespace Go.Proofs.Ytdamjkfggmmmeac.Pure
open Go.RowKit Go.Proofs.Ytdamjkfggmmmeac.PTo Go.Proofs.YtdamjkfggmmmeacW.PrintWords Go.Proofs.YtdamjkfggmmmeacW.PrintLast Go.Proofs.YtdamjkfggmmmeacW.PrintMore
set_option linter.unusedVariables false
set_option linter.unusedSimpArgs false
theorem w64 {n : Int} (h0 : -9223372036854775808 ≤ n) (h1 : n < 9223372036854775808) : wrap64 n = n := by unfold wrap64; omega
open Octet (num)
/-- 256 to the i. -/
def pw (i : Nat) : Int := 2 ^ (8 * i)
theorem pw_succ (i : Nat) : pw (i + 1) = pw i * 256 := by
  unfold pw; rw [show 8 * (i + 1) = 8 * i + 8 by omega, Int.pow_add]; rfl
theorem pw_pos (i : Nat) : 0 < pw i := by unfold pw; exact Int.pow_pos (by decide)
theorem pw_small (i : Nat) (h : i ≤ 7) : 1 ≤ pw i ∧ pw i ≤ 72057594037927936 := by
  have : i = 0 ∨ i = 1 ∨ i = 2 ∨ i = 3 ∨ i = 4 ∨ i = 5 ∨ i = 6 ∨ i = 7 := by omega
  rcases this with rfl | rfl | rfl | rfl | rfl | rfl | rfl | rfl <;> decide
theorem digs_fold (v : Int) : ∀ (j : Nat) (a : Int), (Writer.digs v j).foldl (fun v c => v * 256 + c) a = a * pw j + v % pw j := by
  intro j
  induction j with
  | zero => intro a; simp [Writer.digs, pw, Int.emod_one]
  | succ j ih =>
    intro a
    rw [Writer.digs, List.foldl_cons, ih, pw_succ]
    rw [show (2 : Int) ^ (8 * j) = pw j from rfl]
    have hp := pw_pos j
    obtain ⟨P, hP⟩ : ∃ P, pw j = P := ⟨_, rfl⟩
    rw [hP] at hp ⊢
    have h1 := Int.mul_ediv_add_emod v P
    have h2 := Int.emod_nonneg v (show P ≠ 0 by omega)
    have h3 := Int.emod_lt_of_pos v hp
    obtain ⟨q, hq⟩ : ∃ q, v / P = q := ⟨_, rfl⟩
    obtain ⟨r, hr⟩ : ∃ r, v % P = r := ⟨_, rfl⟩
    rw [hq, hr] at h1
    rw [hr] at h2 h3
    rw [hq, hr]
    have h4 := Int.mul_ediv_add_emod q 256
    obtain ⟨q1, hq1⟩ : ∃ q1, q / 256 = q1 := ⟨_, rfl⟩
    obtain ⟨q0, hq0⟩ : ∃ q0, q % 256 = q0 := ⟨_, rfl⟩
    have h5 : 0 ≤ q0 ∧ q0 < 256 := by omega
    rw [hq1, hq0] at h4
    rw [hq0]
    have h6 : v = (P * q0 + r) + (P * 256) * q1 := by
      rw [← h1, ← h4, Int.mul_add]
      rw [show P * (256 * q1) = P * 256 * q1 by rw [Int.mul_assoc]]
      omega
    have h7 : 0 ≤ P * q0 := Int.mul_nonneg (by omega) h5.1
    have h8 : P * q0 ≤ P * 255 := Int.mul_le_mul_of_nonneg_left (by omega) (by omega)
    have h9 : v % (P * 256) = P * q0 + r := by
      rw [h6, Int.add_mul_emod_self_left]
      exact Int.emod_eq_of_lt (by omega) (by omega)
    rw [h9, Int.add_mul, Int.mul_assoc, Int.mul_comm 256 P, Int.mul_comm q0 P]
    omega
theorem digs_num (v : Int) (j : Nat) (h0 : 0 ≤ v) (h1 : v < pw j) : num (Writer.digs v j) = v := by
  unfold num
  rw [digs_fold, Int.zero_mul, Int.zero_add]
  exact Int.emod_eq_of_lt h0 h1
theorem digs_bytes (v : Int) : ∀ j, (∀ x ∈ Writer.digs v j, 0 ≤ x ∧ x ≤ 255) := by
  intro j
  induction j with
  | zero => intro x hx; simp [Writer.digs] at hx
  | succ j ih =>
    intro x hx
    rw [Writer.digs] at hx
    rcases List.mem_cons.1 hx with rfl | h
    · omega
    · exact ih x h
theorem num_le (l : List Int) (hb : ∀ c ∈ l, 0 ≤ c ∧ c ≤ 255) (hl : l.length ≤ 6) : 0 ≤ num l ∧ num l ≤ 281474976710656 := by
  have h := Octet.fold_range l 0 (by omega) hb
  rw [show l.foldl (fun v c => v * 256 + c) 0 = num l from rfl] at h
  have h2 : (256 : Int) ^ l.length ≤ 281474976710656 := by
    have : l.length = 0 ∨ l.length = 1 ∨ l.length = 2 ∨ l.length = 3 ∨ l.length = 4 ∨ l.length = 5 ∨ l.length = 6 := by omega
    rcases this with e | e | e | e | e | e | e <;> rw [e] <;> decide
  omega
theorem l1_run (a : Int) (l : List Int) (h1 : 1 ≤ l.length) (h7 : l.length ≤ 7) (hb : ∀ c ∈ l, 0 ≤ c ∧ c ≤ 255) : ∀ (rest done : List Int), l = done ++ rest → ∃ k, polyglotlaw12_TlvNums.l1 k (l.length : Int) (num l) true (num done) (done.length : Int) a l = some true
  | [], done, he => ⟨1, by
      have e : done = l := by simpa using he.symm
      subst e
      rw [polyglotlaw12_TlvNums.l1, if_neg (by omega), if_pos rfl, if_pos rfl]; rfl⟩
  | c :: rest, done, he => by
    have hll : l.length = done.length + rest.length + 1 := by rw [he]; simp; omega
    have hc := hb c (by rw [he]; simp)
    have hn := num_le done (fun x hx => hb x (by rw [he]; simp [hx])) (by omega)
    have hr : rd l (done.length : Int) = c := by rw [he]; simp [rd]
    obtain ⟨k, hk⟩ := l1_run a l h1 h7 hb rest (done ++ [c]) (by rw [he]; simp)
    refine ⟨k + 1, ?_⟩
    have e : wrap64 (wrap64 (num done * 256) + wrap64 c) = num (done ++ [c]) := by
      rw [w64 (n := num done * 256) (by omega) (by omega), w64 (n := c) (by omega) (by omega), w64 (by omega) (by omega), Octet.num_snoc]
    have v : wrap64 ((done.length : Int) + 1) = ((done ++ [c]).length : Int) := by rw [w64 (by omega) (by omega)]; simp
    rw [polyglotlaw12_TlvNums.l1, if_pos (by omega), if_pos (by omega), if_pos (by omega), hr, e, v, hk]
theorem value_is (a : Int) (l : List Int) (m : Int) (hl : l.length ≤ 400) (hb : ∀ c ∈ l, 0 ≤ c ∧ c ≤ 255) : tlv_Value.f a l m = if 1 ≤ m ∧ m ≤ 7 ∧ (l.length : Int) = m then some (num l, true) else some (0, false) := by
  unfold tlv_Value.f
  rw [if_pos ⟨by omega, by simpa using hb⟩]
theorem j3_ok (m a : Int) (l : List Int) (hl : l.length ≤ 400) (hb : ∀ c ∈ l, 0 ≤ c ∧ c ≤ 255) : ∃ k, polyglotlaw12_TlvNums.j3 k m a l = some true := by
  by_cases h : 1 ≤ m ∧ m ≤ 7 ∧ (l.length : Int) = m
  · obtain ⟨h1, h7, rfl⟩ := h
    obtain ⟨k, hk⟩ := l1_run a l (by omega) (by omega) hb l [] rfl
    refine ⟨k + 2, ?_⟩
    rw [polyglotlaw12_TlvNums.j3, value_is a l _ hl hb, if_pos ⟨h1, h7, rfl⟩]
    simp only [Option.bind_some]
    rw [if_neg (by omega), if_neg (by omega), show ((l.length : Int) != (l.length : Int)) = false by simp, polyglotlaw12_TlvNums.j4, if_neg (by simp)]
    exact hk
  · have hj : ∀ b, b = true → polyglotlaw12_TlvNums.j4 1 m 0 false b a l = some true := fun b hb => by
      subst hb
      rw [polyglotlaw12_TlvNums.j4, if_pos rfl, if_pos rfl, if_neg (by simp)]; rfl
    refine ⟨2, ?_⟩
    rw [polyglotlaw12_TlvNums.j3, value_is a l _ hl hb, if_neg h]
    simp only [Option.bind_some]
    by_cases c1 : m < 1
    · rw [if_pos c1]; exact hj _ rfl
    · by_cases c2 : m > 7
      · rw [if_neg c1, if_pos c2]; exact hj _ rfl
      · rw [if_neg c1, if_neg c2]; exact hj _ (by simp; omega)
theorem j2_bad (n v m a t : Int) (l : List Int) (h : ∃ k, polyglotlaw12_TlvNums.j3 k m a l = some true) : ∃ k, polyglotlaw12_TlvNums.j2 k n v m true a l t [] = some true := by
  obtain ⟨k, hk⟩ := h
  exact ⟨k + 1, by rw [polyglotlaw12_TlvNums.j2, if_pos rfl, if_pos (by simp), hk]⟩
theorem j2_good (n : Nat) (v m a t : Int) (l : List Int) (h1 : 1 ≤ n) (h7 : n ≤ 7) (hv0 : 0 ≤ v) (hv1 : v < pw n) (h : ∃ k, polyglotlaw12_TlvNums.j3 k m a l = some true) : ∃ k, polyglotlaw12_TlvNums.j2 k n v m false a l t (Writer.digs v n) = some true := by
  obtain ⟨k, hk⟩ := h
  have hln := Writer.digs_len v n
  refine ⟨k + 1, ?_⟩
  rw [polyglotlaw12_TlvNums.j2, if_neg (by simp), value_is t (Writer.digs v n) n (by omega) (digs_bytes v n), if_pos ⟨by omega, by omega, by omega⟩]
  simp only [Option.bind_some]
  rw [if_pos (by omega), if_pos trivial, digs_num v n hv0 hv1, if_pos rfl, hk]
theorem fits_is' (n : Nat) (v : Int) (h1 : 1 ≤ n) (h7 : n ≤ 7) : Writer.fitsB n v = decide (0 ≤ v ∧ v < pw n) := by
  unfold Writer.fitsB pw
  rw [Int.toNat_natCast, Bool.eq_iff_iff]; simp; omega
theorem j1_ok (tag n v m a : Int) (l : List Int) (p : Int) (hp : ∀ k : Nat, n = (k : Int) → 1 ≤ k → k ≤ 7 → p = pw k) (h : ∃ k, polyglotlaw12_TlvNums.j3 k m a l = some true) :
    ∃ k, polyglotlaw12_TlvNums.j1 k tag n v m p a l tag (if Writer.fitsB n v = true then Writer.digs v n.toNat else []) = some true := by
  have bad : Writer.fitsB n v = false → ∃ k, polyglotlaw12_TlvNums.j2 k n v m true a l tag (if Writer.fitsB n v = true then Writer.digs v n.toNat else []) = some true := fun hf => by
    rw [hf, if_neg (by simp)]; exact j2_bad n v m a tag l h
  by_cases c1 : n < 1
  · obtain ⟨k, hk⟩ := bad (Writer.fits_no (by omega))
    exact ⟨k + 1, by rw [polyglotlaw12_TlvNums.j1, if_pos rfl, if_pos c1, hk]⟩
  · by_cases c2 : n > 7
    · obtain ⟨k, hk⟩ := bad (Writer.fits_no (by omega))
      exact ⟨k + 1, by rw [polyglotlaw12_TlvNums.j1, if_pos rfl, if_neg c1, if_pos c2, hk]⟩
    · by_cases c3 : v < 0
      · obtain ⟨k, hk⟩ := bad (Writer.fits_no (by omega))
        exact ⟨k + 1, by rw [polyglotlaw12_TlvNums.j1, if_pos rfl, if_neg c1, if_neg c2, if_pos c3, hk]⟩
      · obtain ⟨i, rfl⟩ := Int.eq_ofNat_of_zero_le (show 0 ≤ n by omega)
        have hpi := hp i rfl (by omega) (by omega)
        subst hpi
        have hf := fits_is' i v (by omega) (by omega)
        by_cases c4 : v ≥ pw i
        · obtain ⟨k, hk⟩ := bad (by rw [hf]; simp; omega)
          exact ⟨k + 1, by rw [polyglotlaw12_TlvNums.j1, if_pos rfl, if_neg c1, if_neg c2, if_neg c3, decide_eq_true c4, hk]⟩
        · obtain ⟨k, hk⟩ := j2_good i v m a tag l (by omega) (by omega) (by omega) (by omega) h
          refine ⟨k + 1, ?_⟩
          rw [polyglotlaw12_TlvNums.j1, if_pos rfl, if_neg c1, if_neg c2, if_neg c3, decide_eq_false c4, hf, decide_eq_true (show 0 ≤ v ∧ v < pw i by omega), if_pos rfl, Int.toNat_natCast, hk]
theorem l0_run (tag n v m a : Int) (l D : List Int) : ∀ (d i : Nat), i + d = 7 → ((i : Int) ≤ n ∨ i = 0) → (∀ p, (∀ k : Nat, n = (k : Int) → 1 ≤ k → k ≤ 7 → p = pw k) → ∃ k, polyglotlaw12_TlvNums.j1 k tag n v m p a l tag D = some true) →
    ∃ k, polyglotlaw12_TlvNums.l0 k tag n v m (pw i) (i : Int) a l tag D = some true
  | 0, i, hi, hin, h => by
    obtain ⟨k, hk⟩ := h (pw i) (fun k hk h1 h7 => by rw [show i = k by omega])
    refine ⟨k + 1, ?_⟩
    rw [polyglotlaw12_TlvNums.l0]
    by_cases c : (i : Int) < n
    · rw [if_pos c, if_neg (by omega), hk]
    · rw [if_neg c, hk]
  | d + 1, i, hi, hin, h => by
    by_cases c : (i : Int) < n
    · obtain ⟨k, hk⟩ := l0_run tag n v m a l D d (i + 1) (by omega) (.inl (by omega)) h
      have hs := pw_small i (by omega)
      have hs1 := pw_succ i
      refine ⟨k + 1, ?_⟩
      rw [polyglotlaw12_TlvNums.l0, if_pos c, if_pos (by omega), w64 (n := (i : Int) + 1) (by omega) (by omega)]
      have hw : wrap64 (pw i * 256) = pw (i + 1) := by
        rw [hs1]
        have h6 : i ≤ 6 := by omega
        have : i = 0 ∨ i = 1 ∨ i = 2 ∨ i = 3 ∨ i = 4 ∨ i = 5 ∨ i = 6 := by omega
        have hb : pw i ≤ 281474976710656 := by
          rcases this with rfl | rfl | rfl | rfl | rfl | rfl | rfl <;> decide
        exact w64 (by omega) (by omega)
      rw [hw]
      exact hk
    · obtain ⟨k, hk⟩ := h (pw i) (fun k hk h1 h7 => by rw [show i = k by omega])
      exact ⟨k + 1, by rw [polyglotlaw12_TlvNums.l0, if_neg c, hk]⟩
theorem TlvNums : polyglotlaw12_TlvNums.Pure := by
  intro tag n v a l m _ _ _ hw _
  have hby : ∀ c ∈ l, 0 ≤ c ∧ c ≤ 255 := fun c hc => by
    have := hw.2.2 c hc
    simp [Lit.wf, IntKind.min, IntKind.max, IntKind.signed, IntKind.bits] at this
    omega
  by_cases hl : l.length ≤ 400
  · obtain ⟨k, hk⟩ := l0_run tag n v m a l _ 7 0 rfl (.inr rfl) (fun p hp => j1_ok tag n v m a l p hp (j3_ok m a l hl hby))
    refine ⟨k, ?_⟩
    unfold polyglotlaw12_TlvNums.f tlv_Num.f
    rw [if_neg (by omega)]
    exact hk
  · exact ⟨0, by unfold polyglotlaw12_TlvNums.f; rw [if_pos (by omega)]; rfl⟩
end Go.Proofs.Ytdamjkfggmmmeac.Pure
