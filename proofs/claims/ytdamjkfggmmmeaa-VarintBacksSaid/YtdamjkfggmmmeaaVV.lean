/- What varint.Of, varint.Len, varint.Get and the statement's own 'form' compute, as plain functions on lists. -/
import Derived.Test.YtdamjkfggmmmeaaPVarx
import Derived.Lib.Zigzag
import Derived.Lib.EndianBits
import Derived.Laws.BitsAllLaws
namespace Go.Proofs.Ytdamjkfggmmmeaa.VV
open Go Go.RowKit Go.Proofs.Ytdamjkfggmmmeaa.PVar Go.Proofs.YtdamjkfggmmmeaaW.PrintWords Go.Proofs.YtdamjkfggmmmeaaW.PrintLast Go.Proofs.YtdamjkfggmmmeaaW.PrintMore
theorem awake_k : polyglotlaw02_awake.f 20 = some true := by decide +kernel
theorem awake_ge (k : Nat) (h : 20 ≤ k) : polyglotlaw02_awake.f k = some true := at_rounds (polyglotlaw02_awake.mono) h awake_k
theorem wf_u64 {n : Int} (h : (Lit.int .u64 n).wf = true) : 0 ≤ n ∧ n < 18446744073709551616 := by
  have : 0 ≤ n ∧ n ≤ 18446744073709551615 := by simpa [Lit.wf, IntKind.min, IntKind.max, IntKind.bits, IntKind.signed] using h
  omega
theorem wf_u8 {n : Int} (h : (Lit.int .u8 n).wf = true) : 0 ≤ n ∧ n < 256 := by
  have : 0 ≤ n ∧ n ≤ 255 := by simpa [Lit.wf, IntKind.min, IntKind.max, IntKind.bits, IntKind.signed] using h
  omega
theorem wrap64_in {x : Int} (h0 : -9223372036854775808 ≤ x) (h1 : x ≤ 9223372036854775807) : wrap64 x = x := by unfold wrap64; omega
theorem pow128 (i : Nat) : (128 : Int) ^ i = 2 ^ (7 * i) := by
  rw [show (128 : Int) = 2 ^ 7 by decide, ← Int.pow_mul]
theorem pow_pos (i : Nat) : (0 : Int) < 128 ^ i := Int.pow_pos (by decide)
theorem or128_fin : ∀ x : Fin 256, Go.bits .or .u8 (x.val : Int) 128 = (x.val : Int) % 128 + 128 := by decide +kernel
theorem or128 (x : Int) (h0 : 0 ≤ x) (h1 : x < 256) : Go.bits .or .u8 x 128 = x % 128 + 128 := by
  have := or128_fin ⟨x.toNat, by omega⟩
  simpa [Int.toNat_of_nonneg h0] using this
theorem and127 (x : Int) (h0 : 0 ≤ x) (h1 : x < 256) : Go.bits .and .u8 x 127 = x % 128 := by
  simpa using bits_mask .u8 8 (by decide) wraps_u8 7 (by decide) x h0 h1

/-- A number's form, by division. -/
def ofN : Nat → Int → List Int
  | 0, _ => []
  | n + 1, v => if v ≥ 128 then (v % 128 + 128) :: ofN n (v / 128) else [v]
theorem ofN_len (n : Nat) : ∀ v, (ofN n v).length ≤ n := by
  induction n with
  | zero => intro v; simp [ofN]
  | succ n ih => intro v; simp only [ofN]; split <;> simp [ih]
theorem div_lt {v : Int} {n : Nat} (h : v < 128 ^ (n + 1)) : v / 128 < 128 ^ n := by
  rw [Int.pow_succ] at h
  exact Int.ediv_lt_of_lt_mul (by decide) h
theorem of_loop (n : Nat) : ∀ (v : Int) (acc : List Int) (k : Nat), 0 ≤ v → v < 128 ^ (n + 1) → acc.length + n < 1000 → n < k → varint_Of.l0 k v acc = some (acc ++ ofN (n + 1) v) := by
  induction n with
  | zero =>
    intro v acc k h0 h1 ha hk
    obtain ⟨k, rfl⟩ : ∃ m, k = m + 1 := ⟨k - 1, by omega⟩
    have h1 : v < 128 := by simpa using h1
    simp only [varint_Of.l0, ofN]
    rw [if_neg (by omega), if_pos (by omega), if_neg (by omega)]
    congr 3; omega
  | succ n ih =>
    intro v acc k h0 h1 ha hk
    obtain ⟨k, rfl⟩ : ∃ m, k = m + 1 := ⟨k - 1, by omega⟩
    rw [show ofN (n + 1 + 1) v = if v ≥ 128 then (v % 128 + 128) :: ofN (n + 1) (v / 128) else [v] from rfl]
    simp only [varint_Of.l0]
    by_cases h : v ≥ 128
    · rw [if_pos h, if_pos (by omega), if_pos h, ih (v / 128) _ k (by omega) (div_lt h1) (by simp; omega) (by omega)]
      rw [or128 (v % 256) (by omega) (by omega), show v % 256 % 128 = v % 128 by omega, List.append_assoc]
      rfl
    · rw [if_neg h, if_pos (by omega), if_neg h]
      congr 3; omega
theorem big : (18446744073709551616 : Int) < 128 ^ 10 := by decide
theorem of_eq (v : Int) (h0 : 0 ≤ v) (h1 : v < 18446744073709551616) (k : Nat) (hk : 9 < k) : varint_Of.f k v = some (ofN 10 v) := by
  have := of_loop 9 v [] k h0 (Int.lt_trans h1 big) (by simp) hk
  simpa [varint_Of.f] using this
theorem form_loop (n : Nat) : ∀ (v : Int) (acc : List Int) (i : Int) (k : Nat), 0 ≤ v → v < 18446744073709551616 → v < 128 ^ (n + 1) → acc.length + n < 1000 → i + n = 9 → n < k → polyglotlaw02_form.l0 k v acc i = some (acc ++ ofN (n + 1) v) := by
  have td : ∀ v : Int, 0 ≤ v → v < 18446744073709551616 → IntKind.u64.wrap (Int.tdiv v 128) = v / 128 := fun v h0 h1 => by
    rw [Int.tdiv_eq_ediv_of_nonneg h0, IntKind.wrap_u64]; omega
  have tm : ∀ v : Int, 0 ≤ v → Int.tmod v 128 = v % 128 := fun v h0 => Int.tmod_eq_emod_of_nonneg h0
  induction n with
  | zero =>
    intro v acc i k h0 hb h1 ha hi hk
    obtain ⟨k, rfl⟩ : ∃ m, k = m + 1 := ⟨k - 1, by omega⟩
    have h1 : v < 128 := by simpa using h1
    simp only [polyglotlaw02_form.l0, ofN]
    rw [td v h0 hb, tm v h0, if_pos (by omega), if_pos (by omega), if_pos (by omega), if_neg (by omega)]
    congr 3; omega
  | succ n ih =>
    intro v acc i k h0 hb h1 ha hi hk
    obtain ⟨k, rfl⟩ : ∃ m, k = m + 1 := ⟨k - 1, by omega⟩
    rw [show ofN (n + 1 + 1) v = if v ≥ 128 then (v % 128 + 128) :: ofN (n + 1) (v / 128) else [v] from rfl]
    simp only [polyglotlaw02_form.l0]
    rw [td v h0 hb, tm v h0, if_pos (by omega)]
    by_cases h : v ≥ 128
    · rw [if_neg (by omega), if_pos (by omega), if_pos h, wrap64_in (by omega) (by omega), ih (v / 128) _ (i + 1) k (by omega) (by omega) (div_lt h1) (by simp; omega) (by omega) (by omega)]
      rw [show (v % 128 + 128) % 256 = v % 128 + 128 by omega, List.append_assoc]
      rfl
    · rw [if_pos (by omega), if_pos (by omega), if_neg h]
      congr 3; omega
theorem form_eq (v : Int) (h0 : 0 ≤ v) (h1 : v < 18446744073709551616) (k : Nat) (hk : 9 < k) : polyglotlaw02_form.f k v = some (ofN 10 v) := by
  have := form_loop 9 v [] 0 k h0 h1 (Int.lt_trans h1 big) (by simp) (by decide) hk
  simpa [polyglotlaw02_form.f] using this
theorem len_loop (n : Nat) : ∀ (v m : Int) (k : Nat), 0 ≤ v → v < 128 ^ (n + 1) → 0 ≤ m → m < 1000 - n → n < k → varint_Len.l0 k v m = some (m + (ofN (n + 1) v).length - 1) := by
  induction n with
  | zero =>
    intro v m k h0 h1 hm hm1 hk
    obtain ⟨k, rfl⟩ : ∃ m, k = m + 1 := ⟨k - 1, by omega⟩
    have h1 : v < 128 := by simpa using h1
    simp only [varint_Len.l0, ofN]
    rw [if_neg (by omega), if_neg (by omega)]
    simp
  | succ n ih =>
    intro v m k h0 h1 hm hm1 hk
    obtain ⟨k, rfl⟩ : ∃ m, k = m + 1 := ⟨k - 1, by omega⟩
    rw [show ofN (n + 1 + 1) v = if v ≥ 128 then (v % 128 + 128) :: ofN (n + 1) (v / 128) else [v] from rfl]
    simp only [varint_Len.l0]
    by_cases h : v ≥ 128
    · rw [if_pos h, if_pos h, wrap64_in (by omega) (by omega), ih (v / 128) (m + 1) k (by omega) (div_lt h1) (by omega) (by omega) (by omega)]
      simp; omega
    · rw [if_neg h, if_neg h]; simp
theorem len_eq (v : Int) (h0 : 0 ≤ v) (h1 : v < 18446744073709551616) (k : Nat) (hk : 9 < k) : varint_Len.f k v = some ((ofN 10 v).length : Int) := by
  have := len_loop 9 v 1 k h0 (Int.lt_trans h1 big) (by decide) (by decide) hk
  rw [varint_Len.f, this]
  show some (1 + ((ofN 10 v).length : Int) - 1) = _
  congr 1; omega

/-! ### What is read -/
/-- What bytes say, seven bits a byte, the lowest first. -/
def val : List Int → Int
  | [] => 0
  | c :: l => c % 128 + 128 * val l
/-- A form: all bytes but the last go on; the last one is not 0, unless it is the first, too ('z': it may be 0). -/
def Can : Bool → List Int → Prop
  | _, [] => False
  | z, c :: l => if l = [] then 0 ≤ c ∧ c < 128 ∧ (z = true ∨ c ≠ 0) else 128 ≤ c ∧ c < 256 ∧ Can false l
theorem can_one {z : Bool} {c : Int} (h : Can z [c]) : 0 ≤ c ∧ c < 128 ∧ (z = true ∨ c ≠ 0) := by simpa [Can] using h
theorem can_cons {z : Bool} {c d : Int} {l : List Int} (h : Can z (c :: d :: l)) : 128 ≤ c ∧ c < 256 ∧ Can false (d :: l) := by
  have : (if (d :: l) = [] then 0 ≤ c ∧ c < 128 ∧ (z = true ∨ c ≠ 0) else 128 ≤ c ∧ c < 256 ∧ Can false (d :: l)) := h
  rwa [if_neg (by simp)] at this
theorem or_high (i : Nat) (acc c : Int) (ha : 0 ≤ acc) (ha1 : acc < 128 ^ i) (hi : i ≤ 9) (hc : 0 ≤ c) (hc1 : c < 128) (h9 : i = 9 → c ≤ 1) :
    Go.bits .or .u64 acc (shl .u64 (IntKind.u64.wrap c) (wrap64 (7 * (i : Int)))) = acc + c * 128 ^ i := by
  have hp := pow_pos i
  have hw : c * 128 ^ i < 18446744073709551616 := by
    have : i = 0 ∨ i = 1 ∨ i = 2 ∨ i = 3 ∨ i = 4 ∨ i = 5 ∨ i = 6 ∨ i = 7 ∨ i = 8 ∨ i = 9 := by omega
    rcases this with rfl | rfl | rfl | rfl | rfl | rfl | rfl | rfl | rfl | rfl <;> simp at h9 ⊢ <;> omega
  have hwa : acc < 18446744073709551616 := by
    have : i = 0 ∨ i = 1 ∨ i = 2 ∨ i = 3 ∨ i = 4 ∨ i = 5 ∨ i = 6 ∨ i = 7 ∨ i = 8 ∨ i = 9 := by omega
    rcases this with rfl | rfl | rfl | rfl | rfl | rfl | rfl | rfl | rfl | rfl <;> simp at ha1 ⊢ <;> omega
  have h0 : 0 ≤ c * 128 ^ i := Int.mul_nonneg hc (Int.le_of_lt hp)
  rw [wrap64_in (by omega) (by omega), u64_wrap_id c hc (by omega)]
  have es : shl .u64 c (7 * (i : Int)) = c * 128 ^ i := by
    unfold shl
    rw [show (7 * (i : Int)).toNat = 7 * i by omega, Nat.min_eq_left (by show 7 * i ≤ 64; omega), ← pow128, u64_wrap_id _ h0 hw]
  rw [es]
  exact bits_join_low .u64 64 (by decide) wraps_u64 (7 * i) acc (c * 128 ^ i) ha (by rw [← pow128]; exact ha1) hwa h0 (by rw [← pow128]; exact Int.mul_emod_left _ _) hw
theorem rd_drop {l m : List Int} {c : Int} {i : Nat} (h : l.drop i = c :: m) : rd l (i : Int) = c ∧ i < l.length ∧ l.drop (i + 1) = m := by
  have hl : i < l.length := by
    apply Classical.byContradiction; intro hn
    rw [List.drop_eq_nil_of_le (by omega)] at h; cases h
  have h2 := (List.drop_eq_getElem_cons hl).symm.trans h
  injection h2 with h3 h4
  exact ⟨by unfold rd; simp [List.getD_eq_getElem?_getD, List.getElem?_eq_getElem hl, h3], hl, h4⟩
theorem get_go (k : Nat) (l m : List Int) (c acc : Int) (i : Nat) (hd : l.drop i = c :: m) (hi : i ≤ 9) (ha : 0 ≤ acc) (ha1 : acc < 128 ^ i) (hc : 128 ≤ c) (hc1 : c < 256) (h9 : i ≠ 9) :
    varint_Get.l0 (k + 2) l acc 0 2 (i : Int) = varint_Get.l0 k l (acc + c % 128 * 128 ^ i) 0 2 ((i + 1 : Nat) : Int) := by
  obtain ⟨hr, hl, _⟩ := rd_drop hd
  simp only [varint_Get.l0, varint_Get.j1]
  rw [if_pos (by omega), if_neg (by omega), if_pos (by omega), if_pos (by omega), if_neg (by omega), hr]
  rw [if_neg (by simp), if_pos (by rw [wrap64_in (by omega) (by omega)]; omega), if_neg (by omega), and127 c (by omega) hc1]
  rw [or_high i acc (c % 128) ha ha1 hi (by omega) (by omega) (fun h => absurd h h9), wrap64_in (by omega) (by omega)]
  rfl
theorem get_end (k : Nat) (l m : List Int) (c acc : Int) (i : Nat) (hd : l.drop i = c :: m) (hi : i ≤ 9) (ha : 0 ≤ acc) (ha1 : acc < 128 ^ i) (hc : 0 ≤ c) (hc1 : c < 128) (h9 : i = 9 → c ≤ 1) :
    varint_Get.l0 (k + 2) l acc 0 2 (i : Int) = if c = 0 ∧ 0 < i then some (0, 0, 4) else some (acc + c * 128 ^ i, (i : Int) + 1, 0) := by
  obtain ⟨hr, hl, _⟩ := rd_drop hd
  have e : varint_Get.j1 (k + 1) l acc 0 2 (i : Int) c (i : Int) false = if c = 0 ∧ 0 < i then some (0, 0, 4) else some (acc + c * 128 ^ i, (i : Int) + 1, 0) := by
    simp only [varint_Get.j1]
    rw [if_neg (by simp), if_pos (by rw [wrap64_in (by omega) (by omega)]; omega), if_pos hc1, and127 c hc (by omega), show c % 128 = c by omega,
      or_high i acc c ha ha1 hi hc hc1 h9, wrap64_in (x := (i : Int) + 1) (by omega) (by omega)]
    by_cases z : c = 0
    · rw [if_pos z]
      by_cases p : 0 < i
      · rw [if_pos (by omega), if_pos ⟨z, p⟩]
      · rw [if_neg (by omega), if_neg (by omega)]
    · rw [if_neg z, if_neg (by omega)]
  simp only [varint_Get.l0]
  rw [if_pos (by omega), if_neg (by omega), if_pos (by omega), if_pos (by omega), hr]
  by_cases q : i = 9
  · rw [if_pos (by omega), show decide (c > 1) = false by simp; exact h9 q]; exact e
  · rw [if_neg (by omega)]; exact e
theorem get_loop (m : List Int) : ∀ (l rest : List Int) (acc : Int) (i k : Nat), l.drop i = m ++ rest → Can (i == 0) m → i + m.length ≤ 10 → (i + m.length = 10 → ∀ c, m.getLast? = some c → c ≤ 1) → 0 ≤ acc → acc < 128 ^ i → 2 * m.length ≤ k →
    varint_Get.l0 k l acc 0 2 (i : Int) = some (acc + val m * 128 ^ i, (i : Int) + m.length, 0) := by
  induction m with
  | nil => intro l rest acc i k hd hcan; exact hcan.elim
  | cons c m ih =>
    intro l rest acc i k hd hcan hlen hlast ha ha1 hk
    obtain ⟨k, rfl⟩ : ∃ q, k = q + 2 := ⟨k - 2, by simp at hk; omega⟩
    cases m with
    | nil =>
      obtain ⟨h0, h1, hz⟩ := can_one hcan
      rw [get_end k l rest c acc i hd (by simp at hlen; omega) ha ha1 h0 h1 (fun h => hlast (by simp; omega) c rfl), if_neg]
      · simp [val, show c % 128 = c by omega]
      · rintro ⟨z, p⟩
        rcases hz with hz | hz
        · simp at hz; omega
        · exact hz z
    | cons d m =>
      obtain ⟨h0, h1, hc2⟩ := can_cons hcan
      have hi : i ≠ 9 := by simp at hlen; omega
      rw [get_go k l (d :: m ++ rest) c acc i hd (by simp at hlen; omega) ha ha1 h0 h1 hi]
      have hz : ((i + 1 : Nat) == 0) = false := by simp
      have hp := pow_pos i
      have hb : acc + c % 128 * 128 ^ i < 128 ^ (i + 1) := by
        rw [Int.pow_succ]
        have : c % 128 * 128 ^ i ≤ 127 * 128 ^ i := Int.mul_le_mul_of_nonneg_right (by omega) (Int.le_of_lt hp)
        omega
      have hb0 : 0 ≤ acc + c % 128 * 128 ^ i := Int.add_nonneg ha (Int.mul_nonneg (by omega) (Int.le_of_lt hp))
      rw [ih l rest _ (i + 1) k (rd_drop hd).2.2 (by rw [hz]; exact hc2) (by simp at hlen ⊢; omega) (fun h e he => hlast (by simp at h ⊢; omega) e (by simpa using he)) hb0 hb (by simp at hk ⊢; omega)]
      congr 2
      · rw [show val (c :: d :: m) = c % 128 + 128 * val (d :: m) from rfl, Int.pow_succ, Int.add_mul, Int.add_assoc]
        congr 2
        rw [Int.mul_comm 128 (val (d :: m)), Int.mul_assoc, Int.mul_comm (128 ^ i) 128]
      · congr 1; simp; omega
theorem get_ok (l m rest : List Int) (hl : l = m ++ rest) (hc : Can true m) (h10 : m.length ≤ 10) (hlast : m.length = 10 → ∀ c, m.getLast? = some c → c ≤ 1) (k : Nat) (hk : 20 ≤ k) :
    varint_Get.f k l = some (val m, (m.length : Int), 0) := by
  have := get_loop m l rest 0 0 k (by simpa using hl) hc (by omega) (fun h => hlast (by omega)) (by decide) (by decide) (by omega)
  simpa [varint_Get.f] using this
/-! ### A number's own form -/
theorem ofN_can (n : Nat) : ∀ (z : Bool) (v : Int), 0 ≤ v → v < 128 ^ (n + 1) → (z = true ∨ v ≠ 0) → Can z (ofN (n + 1) v) ∧ val (ofN (n + 1) v) = v := by
  induction n with
  | zero =>
    intro z v h0 h1 hz
    have h1 : v < 128 := by simpa using h1
    simp only [ofN]
    rw [if_neg (by omega)]
    exact ⟨by simp [Can]; exact ⟨h0, h1, hz⟩, by simp [val]; omega⟩
  | succ n ih =>
    intro z v h0 h1 hz
    rw [show ofN (n + 1 + 1) v = if v ≥ 128 then (v % 128 + 128) :: ofN (n + 1) (v / 128) else [v] from rfl]
    by_cases h : v ≥ 128
    · rw [if_pos h]
      obtain ⟨hc, hv⟩ := ih false (v / 128) (by omega) (div_lt h1) (.inr (by omega))
      have hne : ofN (n + 1) (v / 128) ≠ [] := by intro e; rw [e] at hc; exact hc.elim
      refine ⟨?_, ?_⟩
      · show (if ofN (n + 1) (v / 128) = [] then _ else _)
        rw [if_neg hne]; exact ⟨by omega, by omega, hc⟩
      · show (v % 128 + 128) % 128 + 128 * val (ofN (n + 1) (v / 128)) = v
        rw [hv]; omega
    · rw [if_neg h]
      exact ⟨by simp [Can]; exact ⟨h0, by omega, hz⟩, by simp [val]; omega⟩
theorem ofN_last (n : Nat) : ∀ v, 0 ≤ v → v < 2 * 128 ^ n → (ofN (n + 1) v).length = n + 1 → ∀ c, (ofN (n + 1) v).getLast? = some c → c ≤ 1 := by
  induction n with
  | zero =>
    intro v h0 h1 hl c hc
    have h1 : v < 2 := by simpa using h1
    simp only [ofN] at hc
    rw [if_neg (by omega)] at hc
    simp at hc; omega
  | succ n ih =>
    intro v h0 h1 hl c hc
    rw [show ofN (n + 1 + 1) v = if v ≥ 128 then (v % 128 + 128) :: ofN (n + 1) (v / 128) else [v] from rfl] at hl hc
    by_cases h : v ≥ 128
    · rw [if_pos h] at hl hc
      have hl2 : (ofN (n + 1) (v / 128)).length = n + 1 := by simpa using hl
      have hne : ofN (n + 1) (v / 128) ≠ [] := by intro e; rw [e] at hl2; simp at hl2
      refine ih (v / 128) (by omega) ?_ hl2 c ?_
      · apply Int.ediv_lt_of_lt_mul (by decide); rw [Int.pow_succ, ← Int.mul_assoc] at h1; exact h1
      · rw [List.getLast?_cons] at hc
        rw [List.getLast?_eq_some_getLast hne] at hc ⊢; simpa using hc
    · rw [if_neg h] at hl; simp at hl
theorem own_form (v : Int) (h0 : 0 ≤ v) (h1 : v < 18446744073709551616) : Can true (ofN 10 v) ∧ val (ofN 10 v) = v ∧ (ofN 10 v).length ≤ 10 ∧ ((ofN 10 v).length = 10 → ∀ c, (ofN 10 v).getLast? = some c → c ≤ 1) := by
  obtain ⟨a, b⟩ := ofN_can 9 true v h0 (Int.lt_trans h1 big) (.inl rfl)
  exact ⟨a, b, ofN_len _ _, fun h => ofN_last 9 v h0 (by omega) h⟩
/-- Bytes that are a form are the form of what they say. -/
theorem can_form (m : List Int) : ∀ (z : Bool) (n : Nat), Can z m → m.length ≤ n → ofN n (val m) = m ∧ 0 ≤ val m ∧ (z = false → val m ≠ 0) := by
  induction m with
  | nil => intro z n h; exact h.elim
  | cons c m ih =>
    intro z n h hn
    obtain ⟨n, rfl⟩ : ∃ q, n = q + 1 := ⟨n - 1, by simp at hn; omega⟩
    cases m with
    | nil =>
      obtain ⟨h0, h1, hz⟩ := can_one h
      have hv : val [c] = c := by simp [val]; omega
      rw [hv]
      refine ⟨by simp only [ofN]; rw [if_neg (by omega)], h0, fun e => ?_⟩
      rcases hz with hz | hz
      · rw [e] at hz; cases hz
      · exact hz
    | cons d m =>
      obtain ⟨h0, h1, hc⟩ := can_cons h
      obtain ⟨a, b, e⟩ := ih false n hc (by simp at hn ⊢; omega)
      have hv : val (c :: d :: m) = c % 128 + 128 * val (d :: m) := rfl
      have e := e rfl
      rw [hv]
      refine ⟨?_, by omega, fun _ => by omega⟩
      simp only [ofN]
      rw [if_pos (by omega), show (c % 128 + 128 * val (d :: m)) / 128 = val (d :: m) by omega, a]
      congr 1; omega
theorem can_append (m : List Int) : ∀ (z : Bool) (c : Int), (∀ x ∈ m, 128 ≤ x ∧ x < 256) → 0 ≤ c → c < 128 → (m = [] ∧ z = true ∨ c ≠ 0) → Can z (m ++ [c]) := by
  induction m with
  | nil => intro z c hm h0 h1 hz; simp [Can]; exact ⟨h0, h1, by rcases hz with ⟨_, h⟩ | h; exact .inl h; exact .inr h⟩
  | cons d m ih =>
    intro z c hm h0 h1 hz
    have hz : c ≠ 0 := by rcases hz with ⟨h, _⟩ | h; cases h; exact h
    show (if m ++ [c] = [] then _ else _)
    rw [if_neg (by simp)]
    exact ⟨(hm d (by simp)).1, (hm d (by simp)).2, ih false c (fun x hx => hm x (by simp [hx])) h0 h1 (.inr hz)⟩
end Go.Proofs.Ytdamjkfggmmmeaa.VV
