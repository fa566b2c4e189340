/- What varint.Get computes, read off as in VarintGets. -/
import Derived.Test.YtdamjkfggmmmeabPVfx2
import Derived.Lib.Zigzag
import Derived.Lib.EndianBits
import Derived.Laws.BitsAllLaws
namespace Go.Proofs.Ytdamjkfggmmmeab.VV
open Go Go.RowKit Go.Proofs.Ytdamjkfggmmmeab.PVf Go.Proofs.YtdamjkfggmmmeabW.PrintWords Go.Proofs.YtdamjkfggmmmeabW.PrintLast Go.Proofs.YtdamjkfggmmmeabW.PrintMore
set_option linter.unusedVariables false
set_option linter.unusedSimpArgs false
theorem awake_k : polyglotlaw02_awake.f 20 = some true := by decide +kernel
theorem awake_ge (k : Nat) (h : 20 ≤ k) : polyglotlaw02_awake.f k = some true := at_rounds (polyglotlaw02_awake.mono) h awake_k
theorem wf_u8 {n : Int} (h : (Lit.int .u8 n).wf = true) : 0 ≤ n ∧ n < 256 := by
  have : 0 ≤ n ∧ n ≤ 255 := by simpa [Lit.wf, IntKind.min, IntKind.max, IntKind.bits, IntKind.signed] using h
  omega
theorem wrap64_in {x : Int} (h0 : -9223372036854775808 ≤ x) (h1 : x ≤ 9223372036854775807) : wrap64 x = x := by unfold wrap64; omega
theorem pow128 (i : Nat) : (128 : Int) ^ i = 2 ^ (7 * i) := by
  rw [show (128 : Int) = 2 ^ 7 by decide, ← Int.pow_mul]
theorem pow_pos (i : Nat) : (0 : Int) < 128 ^ i := Int.pow_pos (by decide)
theorem and127 (x : Int) (h0 : 0 ≤ x) (h1 : x < 256) : Go.bits .and .u8 x 127 = x % 128 := by
  simpa using bits_mask .u8 8 (by decide) wraps_u8 7 (by decide) x h0 h1

def val : List Int → Int
  | [] => 0
  | c :: l => c % 128 + 128 * val l
theorem or_high (i : Nat) (acc c : Int) (ha : 0 ≤ acc) (ha1 : acc < 128 ^ i) (hi : i ≤ 9) (hc : 0 ≤ c) (hc1 : c < 128) (h9 : i = 9 → c ≤ 1) :
    Go.bits .or .u64 acc (shl .u64 (IntKind.u64.wrap c) (wrap64 (7 * (i : Int)))) = acc + c * 128 ^ i := by
  have hp := pow_pos i
  have hw : c * 128 ^ i < 18446744073709551616 := by
    have : i = 0 ∨ i = 1 ∨ i = 2 ∨ i = 3 ∨ i = 4 ∨ i = 5 ∨ i = 6 ∨ i = 7 ∨ i = 8 ∨ i = 9 := by omega
    rcases this with rfl | rfl | rfl | rfl | rfl | rfl | rfl | rfl | rfl | rfl <;> simp at h9 ⊢ <;> omega
  have hwa : acc < 18446744073709551616 := by
    have : i = 0 ∨ i = 1 ∨ i = 2 ∨ i = 3 ∨ i = 4 ∨ i = 5 ∨ i = 6 ∨ i = 7 ∨ i = 8 ∨ i = 9 := by omega
    rcases this with rfl | rfl | rfl | rfl | rfl | rfl | rfl | rfl | rfl | rfl <;> simp at ha1 ⊢ <;> omega
  have h0 : 0 ≤ c * 128 ^ i := Int.mul_nonneg hc (Int.le_of_lt hp)
  rw [wrap64_in (by omega) (by omega), u64_wrap_id c hc (by omega)]
  have es : shl .u64 c (7 * (i : Int)) = c * 128 ^ i := by
    unfold shl
    rw [show (7 * (i : Int)).toNat = 7 * i by omega, Nat.min_eq_left (by show 7 * i ≤ 64; omega), ← pow128, u64_wrap_id _ h0 hw]
  rw [es]
  exact bits_join_low .u64 64 (by decide) wraps_u64 (7 * i) acc (c * 128 ^ i) ha (by rw [← pow128]; exact ha1) hwa h0 (by rw [← pow128]; exact Int.mul_emod_left _ _) hw
theorem rd_drop {l m : List Int} {c : Int} {i : Nat} (h : l.drop i = c :: m) : rd l (i : Int) = c ∧ i < l.length ∧ l.drop (i + 1) = m := by
  have hl : i < l.length := by
    apply Classical.byContradiction; intro hn
    rw [List.drop_eq_nil_of_le (by omega)] at h; cases h
  have h2 := (List.drop_eq_getElem_cons hl).symm.trans h
  injection h2 with h3 h4
  exact ⟨by unfold rd; simp [List.getD_eq_getElem?_getD, List.getElem?_eq_getElem hl, h3], hl, h4⟩
theorem get_go (k : Nat) (l m : List Int) (c acc : Int) (i : Nat) (hd : l.drop i = c :: m) (hi : i ≤ 9) (ha : 0 ≤ acc) (ha1 : acc < 128 ^ i) (hc : 128 ≤ c) (hc1 : c < 256) (h9 : i ≠ 9) :
    varint_Get.l0 (k + 2) l acc 0 2 (i : Int) = varint_Get.l0 k l (acc + c % 128 * 128 ^ i) 0 2 ((i + 1 : Nat) : Int) := by
  obtain ⟨hr, hl, _⟩ := rd_drop hd
  simp only [varint_Get.l0, varint_Get.j1]
  rw [if_pos (by omega), if_neg (by omega), if_pos (by omega), if_pos (by omega), if_neg (by omega), hr]
  rw [if_neg (by simp), if_pos (by rw [wrap64_in (by omega) (by omega)]; omega), if_neg (by omega), and127 c (by omega) hc1]
  rw [or_high i acc (c % 128) ha ha1 hi (by omega) (by omega) (fun h => absurd h h9), wrap64_in (by omega) (by omega)]
  rfl
theorem get_end (k : Nat) (l m : List Int) (c acc : Int) (i : Nat) (hd : l.drop i = c :: m) (hi : i ≤ 9) (ha : 0 ≤ acc) (ha1 : acc < 128 ^ i) (hc : 0 ≤ c) (hc1 : c < 128) (h9 : i = 9 → c ≤ 1) :
    varint_Get.l0 (k + 2) l acc 0 2 (i : Int) = if c = 0 ∧ 0 < i then some (0, 0, 4) else some (acc + c * 128 ^ i, (i : Int) + 1, 0) := by
  obtain ⟨hr, hl, _⟩ := rd_drop hd
  have e : varint_Get.j1 (k + 1) l acc 0 2 (i : Int) c (i : Int) false = if c = 0 ∧ 0 < i then some (0, 0, 4) else some (acc + c * 128 ^ i, (i : Int) + 1, 0) := by
    simp only [varint_Get.j1]
    rw [if_neg (by simp), if_pos (by rw [wrap64_in (by omega) (by omega)]; omega), if_pos hc1, and127 c hc (by omega), show c % 128 = c by omega,
      or_high i acc c ha ha1 hi hc hc1 h9, wrap64_in (x := (i : Int) + 1) (by omega) (by omega)]
    by_cases z : c = 0
    · rw [if_pos z]
      by_cases p : 0 < i
      · rw [if_pos (by omega), if_pos ⟨z, p⟩]
      · rw [if_neg (by omega), if_neg (by omega)]
    · rw [if_neg z, if_neg (by omega)]
  simp only [varint_Get.l0]
  rw [if_pos (by omega), if_neg (by omega), if_pos (by omega), if_pos (by omega), hr]
  by_cases q : i = 9
  · rw [if_pos (by omega), show decide (c > 1) = false by simp; exact h9 q]; exact e
  · rw [if_neg (by omega)]; exact e
def goOn : Nat → List Int → Nat
  | 0, _ => 0
  | _, [] => 0
  | n + 1, c :: l => if c ≥ 128 then goOn n l + 1 else 0
theorem goOn_le (n : Nat) : ∀ l, goOn n l ≤ n ∧ goOn n l ≤ l.length := by
  induction n with
  | zero => intro l; simp [goOn]
  | succ n ih =>
    intro l
    cases l with
    | nil => simp [goOn]
    | cons c l =>
      have := ih l
      simp only [goOn]; split <;> simp <;> omega
theorem rd_zero (c : Int) (l : List Int) : rd (c :: l) 0 = c := by simp [rd]
theorem rd_succ (c : Int) (l : List Int) (j : Nat) : rd (c :: l) ((j + 1 : Nat) : Int) = rd l (j : Int) := by simp [rd]
theorem goOn_at (n : Nat) : ∀ l (j : Nat), j < goOn n l → rd l (j : Int) ≥ 128 := by
  induction n with
  | zero => intro l j h; simp [goOn] at h
  | succ n ih =>
    intro l j h
    cases l with
    | nil => simp [goOn] at h
    | cons c l =>
      simp only [goOn] at h
      split at h
      · cases j with
        | zero => rw [show ((0 : Nat) : Int) = 0 by rfl, rd_zero]; assumption
        | succ j => rw [rd_succ]; exact ih l j (by omega)
      · omega
theorem goOn_stop (n : Nat) : ∀ l, goOn n l < n → goOn n l < l.length → rd l (goOn n l : Int) < 128 := by
  induction n with
  | zero => intro l h; omega
  | succ n ih =>
    intro l h h2
    cases l with
    | nil => simp at h2
    | cons c l =>
      simp only [goOn] at h h2 ⊢
      split
      · rename_i hc
        rw [if_pos hc] at h h2
        rw [rd_succ]; exact ih l (by omega) (by simp at h2; omega)
      · rw [show ((0 : Nat) : Int) = 0 by rfl, rd_zero]; omega
theorem take_drop (l : List Int) (i : Nat) (h : i < l.length) : l.drop i = rd l (i : Int) :: l.drop (i + 1) := by
  rw [List.drop_eq_getElem_cons h]; congr 1; simp [rd, List.getD_eq_getElem?_getD, List.getElem?_eq_getElem h]
theorem take_snoc (l : List Int) (i : Nat) (h : i < l.length) : l.take (i + 1) = l.take i ++ [rd l (i : Int)] := by
  rw [List.take_add_one]; congr 1; simp [rd, List.getD_eq_getElem?_getD, List.getElem?_eq_getElem h]
theorem val_snoc (m : List Int) : ∀ c, val (m ++ [c]) = val m + c % 128 * 128 ^ m.length := by
  induction m with
  | nil => intro c; simp [val]
  | cons d m ih =>
    intro c
    show d % 128 + 128 * val (m ++ [c]) = d % 128 + 128 * val m + c % 128 * 128 ^ (m.length + 1)
    rw [ih, Int.mul_add, Int.pow_succ, ← Int.add_assoc]
    congr 1
    rw [Int.mul_comm (128 ^ m.length) 128, ← Int.mul_assoc, ← Int.mul_assoc, Int.mul_comm 128]
theorem val_bd (m : List Int) : 0 ≤ val m ∧ val m < 128 ^ m.length := by
  induction m with
  | nil => simp [val]
  | cons d m ih =>
    show 0 ≤ d % 128 + 128 * val m ∧ d % 128 + 128 * val m < 128 ^ (m.length + 1)
    rw [Int.pow_succ]; omega
theorem get_pre (l : List Int) (hb : ∀ x ∈ l, 0 ≤ x ∧ x < 256) (i : Nat) : ∀ k, i ≤ 9 → i ≤ goOn 10 l → varint_Get.l0 (2 * i + k) l 0 0 2 0 = varint_Get.l0 k l (val (l.take i)) 0 2 (i : Int) := by
  have hg := goOn_le 10 l
  induction i with
  | zero => intro k _ _; simp [val]
  | succ i ih =>
    intro k h1 h2
    have hl : i < l.length := by omega
    have hr := goOn_at 10 l i (by omega)
    have hx : rd l (i : Int) < 256 := by
      have hm : rd l (i : Int) ∈ l := by
        have : l.drop i = rd l (i : Int) :: l.drop (i + 1) := take_drop l i hl
        exact List.mem_of_mem_drop (i := i) (by rw [this]; simp)
      exact (hb _ hm).2
    have hv := val_bd (l.take i)
    have hlen : (l.take i).length = i := by rw [List.length_take]; omega
    rw [show 2 * (i + 1) + k = 2 * i + (k + 2) by omega, ih (k + 2) (by omega) (by omega)]
    rw [get_go k l (l.drop (i + 1)) (rd l (i : Int)) _ i (take_drop l i hl) (by omega) hv.1 (by rw [hlen] at hv; exact hv.2) hr hx (by omega)]
    rw [take_snoc l i hl, val_snoc, hlen]
theorem pow_fin : ∀ E : Fin 9, (128 : Int) ^ (E.val + 1) ≤ 128 ^ 9 := by decide
end Go.Proofs.Ytdamjkfggmmmeab.VV
