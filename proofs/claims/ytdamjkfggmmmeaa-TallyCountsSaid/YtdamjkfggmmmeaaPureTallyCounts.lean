/- TallyCounts: behind any errors the tally's cells hold how often each of 1 to 31 stood among them. -/
import Derived.Test.YtdamjkfggmmmeaaPTallyx2
namespace Go.Proofs.Ytdamjkfggmmmeaa.Pure
open Go Go.RowKit Go.Proofs.Ytdamjkfggmmmeaa.PTally Go.Proofs.YtdamjkfggmmmeaaW.PrintWords Go.Proofs.YtdamjkfggmmmeaaW.PrintLast Go.Proofs.YtdamjkfggmmmeaaW.PrintMore
set_option linter.unusedVariables false
set_option linter.unusedSimpArgs false
namespace TC
theorem awake_k : polyglotlaw27_awake.f 50 = some true := by decide +kernel
theorem awake_ge (k : Nat) (h : 50 ≤ k) : polyglotlaw27_awake.f k = some true := at_rounds (polyglotlaw27_awake.mono) h awake_k
theorem wrap64_in {x : Int} (h0 : -9223372036854775808 ≤ x) (h1 : x ≤ 9223372036854775807) : wrap64 x = x := by unfold wrap64; omega
/-- How often each error stood in a list. -/
def st (p : List Int) : List Int := (List.range 32).map fun (e : Nat) => if 1 ≤ e then (p.count (e : Int) : Int) else (0 : Int)
theorem st_at (p : List Int) (i : Nat) (h1 : 1 ≤ i) (h2 : i ≤ 31) : (st p)[i]? = some (p.count (i : Int) : Int) := by
  simp [st, show i < 32 by omega, show ¬ i = 0 by omega]
theorem st_nil : List.replicate 32 (0 : Int) = st [] := by decide
theorem st_add (p : List Int) (i : Nat) (h1 : 1 ≤ i) (h2 : i ≤ 31) : (st p).set i ((p.count (i : Int) : Int) + 1) = st (p ++ [(i : Int)]) := by
  apply List.ext_getElem
  · simp [st]
  · intro j a b
    have hj : j < 32 := by simpa [st] using b
    simp only [List.getElem_set, st, List.getElem_map, List.getElem_range]
    by_cases h : i = j
    · subst h; simp [List.count_append]; omega
    · rw [if_neg h]
      have : ¬ (i : Int) = (j : Int) := by omega
      simp [List.count_append, List.count_singleton, this]
theorem st_same (p : List Int) (e : Int) (h : ¬ (1 ≤ e ∧ e ≤ 31)) : st p = st (p ++ [e]) := by
  apply List.ext_getElem
  · simp [st]
  · intro j a b
    have hj : j < 32 := by simpa [st] using b
    simp only [st, List.getElem_map, List.getElem_range]
    split
    · have : ¬ e = (j : Int) := by omega
      simp [List.count_append, List.count_singleton, this]
    · rfl
/-- How many of a list are 1 to n. -/
def tot (p : List Int) (n : Nat) : Nat := p.countP fun x => decide (1 ≤ x ∧ x ≤ (n : Int))
theorem tot_zero (p : List Int) : tot p 0 = 0 := by
  unfold tot; rw [List.countP_eq_zero]; intro a _; simp; omega
theorem tot_succ (p : List Int) (n : Nat) : tot p (n + 1) = tot p n + p.count ((n + 1 : Nat) : Int) := by
  induction p with
  | nil => rfl
  | cons x p ih =>
    unfold tot at ih ⊢
    simp only [List.countP_cons, List.count_cons, ih]
    by_cases h1 : x = ((n + 1 : Nat) : Int)
    · subst h1
      rw [if_pos (by simp; omega), if_neg (by simp; omega), if_pos (by simp)]; omega
    · by_cases h2 : 1 ≤ x ∧ x ≤ (n : Int)
      · rw [if_pos (by simp; omega), if_pos (by simp; omega), if_neg (by simpa using h1)]; omega
      · rw [if_neg (by simp; omega), if_neg (by simp; omega), if_neg (by simpa using h1)]; omega
theorem tot_le (p : List Int) (n : Nat) : tot p n ≤ p.length := List.countP_le_length
theorem tot_app (p : List Int) (x : Int) : tot (p ++ [x]) 31 = tot p 31 + if 1 ≤ x ∧ x ≤ 31 then 1 else 0 := by
  unfold tot; rw [List.countP_append]; congr 1
  simp [List.countP_cons]
theorem count_le (p : List Int) (x : Int) : p.count x ≤ p.length := List.count_le_length
theorem get_in (p : List Int) (e : Int) (h : 1 ≤ e ∧ e ≤ 31) : tally_Tally_Get.f (st p) e = some ((p.count e : Int), st p) := by
  unfold tally_Tally_Get.f
  rw [if_pos h, st_at p e.toNat (by omega) (by omega)]
  have : ((e.toNat : Nat) : Int) = e := by omega
  rw [this]
theorem add_in (p : List Int) (e : Int) (hp : p.length ≤ 1000) (h : 1 ≤ e ∧ e ≤ 31) : tally_Tally_Add.f (st p) e = some (true, st (p ++ [e])) := by
  unfold tally_Tally_Add.f
  have he : ((e.toNat : Nat) : Int) = e := by omega
  have := count_le p e
  have h2 := st_add p e.toNat (by omega) (by omega)
  rw [if_pos h, st_at p e.toNat (by omega) (by omega)]
  rw [he] at h2 ⊢
  simp only
  rw [if_pos (by omega), h2]
theorem total_loop (p : List Int) (hp : p.length ≤ 1000) (d : Nat) : ∀ (i k : Nat), i + d = 31 → d < k → tally_Tally_Total.l0 k (tot p i : Int) (i : Int) (st p) = some ((tot p 31 : Int), st p) := by
  induction d with
  | zero =>
    intro i k hi hk
    obtain ⟨k, rfl⟩ : ∃ m, k = m + 1 := ⟨k - 1, by omega⟩
    obtain rfl : i = 31 := by omega
    simp only [tally_Tally_Total.l0]
    rw [if_neg (by omega)]
  | succ d ih =>
    intro i k hi hk
    obtain ⟨k, rfl⟩ : ∃ m, k = m + 1 := ⟨k - 1, by omega⟩
    simp only [tally_Tally_Total.l0]
    have h1 := tot_le p i
    have h2 := count_le p ((i + 1 : Nat) : Int)
    have h3 := tot_succ p i
    have hw : wrap64 ((i : Int) + 1) = ((i + 1 : Nat) : Int) := by rw [wrap64_in (by omega) (by omega)]; omega
    rw [if_pos (by omega), hw, get_in p _ (by omega)]
    simp only [Option.bind_some]
    rw [wrap64_in (by omega) (by omega), show (tot p i : Int) + (p.count ((i + 1 : Nat) : Int) : Int) = (tot p (i + 1) : Int) by omega]
    exact ih (i + 1) k (by omega) (by omega)
theorem total_eq (p : List Int) (hp : p.length ≤ 1000) (k : Nat) (hk : 32 ≤ k) : tally_Tally_Total.f k (st p) = some ((tot p 31 : Int), st p) := by
  unfold tally_Tally_Total.f
  have := total_loop p hp 31 0 k (by omega) (by omega)
  rw [tot_zero] at this; exact this
theorem times_loop (l : List Int) (e : Int) (hl : l.length ≤ 1000) (d : Nat) : ∀ (i k : Nat), i + d = l.length → d < k → polyglotlaw27_times.l0 k l e ((l.take i).count e : Int) (i : Int) = some (l.count e : Int) := by
  induction d with
  | zero =>
    intro i k hi hk
    obtain ⟨k, rfl⟩ : ∃ m, k = m + 1 := ⟨k - 1, by omega⟩
    obtain rfl : i = l.length := by omega
    simp only [polyglotlaw27_times.l0]
    rw [if_neg (by omega), List.take_length]
  | succ d ih =>
    intro i k hi hk
    obtain ⟨k, rfl⟩ : ∃ m, k = m + 1 := ⟨k - 1, by omega⟩
    have hlt : i < l.length := by omega
    have hrd : rd l (i : Int) = l[i] := by simp [rd, hlt]
    have ht : l.take (i + 1) = l.take i ++ [l[i]] := by simp [List.take_append_getElem]
    have h2 := count_le (l.take i) e
    have h3 := List.length_take_le i l
    have hw : wrap64 ((i : Int) + 1) = ((i + 1 : Nat) : Int) := by rw [wrap64_in (by omega) (by omega)]; omega
    have := ih (i + 1) k (by omega) (by omega)
    rw [ht, List.count_append, List.count_singleton] at this
    simp only [polyglotlaw27_times.l0]
    rw [if_pos (by omega), if_pos (by omega), hrd, hw]
    split
    · rename_i h
      rw [if_pos (by simpa using h)] at this
      rw [wrap64_in (by omega) (by omega)]
      simpa using this
    · rename_i h
      rw [if_neg (by simpa using h)] at this
      simpa using this
theorem times_eq (l : List Int) (e : Int) (hl : l.length ≤ 1000) (k : Nat) (hk : l.length < k) : polyglotlaw27_times.f k l e = some (l.count e : Int) := by
  have := times_loop l e hl l.length 0 k (by omega) (by omega)
  simpa [polyglotlaw27_times.f] using this
/-- The rows of 1 to n. -/
def rowsOf (p : List Int) : Nat → List S34
  | 0 => []
  | n + 1 => rowsOf p n ++ if p.count ((n + 1 : Nat) : Int) > 0 then [⟨((n + 1 : Nat) : Int), (p.count ((n + 1 : Nat) : Int) : Int)⟩] else []
theorem rowsOf_succ (p : List Int) (n : Nat) : rowsOf p (n + 1) = rowsOf p n ++ if p.count ((n + 1 : Nat) : Int) > 0 then [⟨((n + 1 : Nat) : Int), (p.count ((n + 1 : Nat) : Int) : Int)⟩] else [] := rfl
theorem rowsOf_zero (p : List Int) : rowsOf p 0 = [] := rfl
theorem tot_nil : tot [] 31 = 0 := rfl
attribute [irreducible] rowsOf tot st
theorem rowsOf_len (p : List Int) (n : Nat) : (rowsOf p n).length ≤ n := by
  induction n with
  | zero => simp [rowsOf_zero]
  | succ n ih => rw [rowsOf_succ]; split <;> simp <;> omega
theorem rows_loop (p : List Int) (hp : p.length ≤ 1000) (d : Nat) : ∀ (i k : Nat), i + d = 31 → d < k → tally_Tally_Rows.l0 k (rowsOf p i) (i : Int) (st p) = some (rowsOf p 31, st p) := by
  induction d with
  | zero =>
    intro i k hi hk
    obtain ⟨k, rfl⟩ : ∃ m, k = m + 1 := ⟨k - 1, by omega⟩
    obtain rfl : i = 31 := by omega
    simp only [tally_Tally_Rows.l0]
    rw [if_neg (by omega)]
  | succ d ih =>
    intro i k hi hk
    obtain ⟨k, rfl⟩ : ∃ m, k = m + 1 := ⟨k - 1, by omega⟩
    have hr := rowsOf_len p i
    have hw : wrap64 ((i : Int) + 1) = ((i + 1 : Nat) : Int) := by rw [wrap64_in (by omega) (by omega)]; omega
    have := ih (i + 1) k (by omega) (by omega)
    rw [rowsOf_succ p i] at this
    simp only [tally_Tally_Rows.l0]
    rw [if_pos (by omega), hw, get_in p _ (by omega)]
    simp only [Option.bind_some]
    split
    · rw [if_pos (by omega)] at this
      rw [if_pos (by omega)]
      exact this
    · rw [if_neg (by omega), List.append_nil] at this
      exact this
theorem rows_eq (p : List Int) (hp : p.length ≤ 1000) (k : Nat) (hk : 32 ≤ k) : tally_Tally_Rows.f k (st p) = some (rowsOf p 31, st p) := by
  have := rows_loop p hp 31 0 k (by omega) (by omega)
  rw [rowsOf_zero] at this; exact this
theorem rowsOf_pre (p : List Int) (n : Nat) (d : Nat) : ∃ t, rowsOf p (n + d) = rowsOf p n ++ t := by
  induction d with
  | zero => exact ⟨[], by simp⟩
  | succ d ih =>
    obtain ⟨t, ht⟩ := ih
    exact ⟨_, by rw [← Nat.add_assoc, rowsOf_succ, ht, List.append_assoc]⟩
theorem row_at (p : List Int) (n : Nat) (hn : n < 31) (hc : p.count ((n + 1 : Nat) : Int) > 0) : (rowsOf p n).length < (rowsOf p 31).length ∧ rd_T34 (rowsOf p 31) ((rowsOf p n).length : Int) = ⟨((n + 1 : Nat) : Int), (p.count ((n + 1 : Nat) : Int) : Int)⟩ := by
  obtain ⟨t, ht⟩ := rowsOf_pre p (n + 1) (31 - (n + 1))
  rw [show n + 1 + (31 - (n + 1)) = 31 by omega, rowsOf_succ p n, if_pos hc] at ht
  rw [ht]
  constructor
  · simp
  · simp [rd_T34]
theorem check (l : List Int) (hl : l.length ≤ 1000) (d : Nat) : ∀ (n k : Nat), n + d = 31 → 1100 + d < k → polyglotlaw27_TallyCounts.l1 k l (rowsOf l 31) ((rowsOf l n).length : Int) ((n + 1 : Nat) : Int) = some true := by
  induction d with
  | zero =>
    intro n k hi hk
    obtain ⟨k, rfl⟩ : ∃ m, k = m + 1 := ⟨k - 1, by omega⟩
    obtain rfl : n = 31 := by omega
    simp only [polyglotlaw27_TallyCounts.l1]
    rw [if_neg (by omega), if_pos trivial, awake_ge k (by omega)]
    rfl
  | succ d ih =>
    intro n k hi hk
    obtain ⟨k, rfl⟩ : ∃ m, k = m + 1 := ⟨k - 1, by omega⟩
    have hr := rowsOf_len l n
    have hw : wrap64 (((n + 1 : Nat) : Int) + 1) = ((n + 1 + 1 : Nat) : Int) := by rw [wrap64_in (by omega) (by omega)]; omega
    have := ih (n + 1) k (by omega) (by omega)
    simp only [polyglotlaw27_TallyCounts.l1]
    rw [if_pos (by omega), times_eq l _ hl k (by omega)]
    simp only [Option.bind_some]
    rw [hw]
    split
    · rename_i hc
      obtain ⟨h1, h2⟩ := row_at l n (by omega) (by omega)
      rw [if_neg (by omega), if_pos (by omega), if_pos (by omega), h2]
      simp only [Option.bind_some]
      rw [if_pos trivial, if_pos trivial, wrap64_in (x := ((rowsOf l n).length : Int) + 1) (by omega) (by omega)]
      rw [rowsOf_succ l n, if_pos (by omega)] at this
      simpa using this
    · rename_i hc
      rw [rowsOf_succ l n, if_neg (by omega)] at this
      simpa using this
theorem j3_eq (l : List Int) (e : Int) (hl : l.length ≤ 1000) (k : Nat) (hk : 2000 ≤ k) : polyglotlaw27_TallyCounts.j3 k l e (if 1 ≤ e ∧ e ≤ 31 then (l.count e : Int) else 0) (st l) = some true := by
  obtain ⟨k, rfl⟩ : ∃ m, k = m + 1 := ⟨k - 1, by omega⟩
  simp only [polyglotlaw27_TallyCounts.j3]
  have hg : tally_Tally_Get.f (st l) e = some (if 1 ≤ e ∧ e ≤ 31 then (l.count e : Int) else 0, st l) := by
    by_cases h : 1 ≤ e ∧ e ≤ 31
    · rw [if_pos h, get_in l e h]
    · unfold tally_Tally_Get.f; rw [if_neg h, if_neg h]
  rw [hg]
  simp only [Option.bind_some]
  rw [if_pos trivial, rows_eq l hl k (by omega)]
  simp only [Option.bind_some]
  have := check l hl 31 0 k (by omega) (by omega)
  rw [rowsOf_zero] at this; exact this
theorem j2_eq (l : List Int) (e : Int) (hl : l.length ≤ 1000) (k : Nat) (hk : 2100 ≤ k) (b : Bool) (hb : b = decide (1 ≤ e ∧ e ≤ 31)) : polyglotlaw27_TallyCounts.j2 k l e 0 b (st l) = some true := by
  obtain ⟨k, rfl⟩ : ∃ m, k = m + 1 := ⟨k - 1, by omega⟩
  have := j3_eq l e hl k (by omega)
  simp only [polyglotlaw27_TallyCounts.j2]
  by_cases h : 1 ≤ e ∧ e ≤ 31
  · rw [if_pos h] at this
    rw [if_pos (by simp [hb, h]), times_eq l e hl k (by omega)]
    simpa using this
  · rw [if_neg h] at this
    rw [if_neg (by simp [hb, h])]
    exact this
theorem j1_in (l : List Int) (e : Int) (p : List Int) (x : Int) (i : Nat) (hi : i < l.length) (hx : rd l (i : Int) = x) (hl : l.length ≤ 100) (hp : p.length ≤ 100) (k : Nat) (hk : 2000 < k) (h : 1 ≤ x ∧ x ≤ 31)
    (hi1 : polyglotlaw27_TallyCounts.l0 k l e (tot (p ++ [x]) 31 : Int) ((i + 1 : Nat) : Int) (st (p ++ [x])) = some true) :
    polyglotlaw27_TallyCounts.j1 (k + 1) l e (tot p 31 : Int) (i : Int) true (st p) = some true := by
  have h2 := tot_le p 31
  have hw : wrap64 ((i : Int) + 1) = ((i + 1 : Nat) : Int) := by rw [wrap64_in (by omega) (by omega)]; omega
  have hta := tot_app p x
  have hto := total_eq (p ++ [x]) (by simp; omega) k (by omega)
  rw [if_pos h] at hta
  have ha := add_in p x (by omega) h
  have hq : wrap64 ((tot p 31 : Int) + 1) = (tot (p ++ [x]) 31 : Int) := by rw [wrap64_in (by omega) (by omega)]; omega
  simp only [polyglotlaw27_TallyCounts.j1]
  rw [hq, if_pos (by omega), if_pos (by omega), hx, ha]
  simp only [Option.bind_some]
  rw [if_neg (by decide), if_pos trivial, hto]
  simp only [Option.bind_some]
  rw [if_pos trivial, hw]
  exact hi1
theorem j1_out (l : List Int) (e : Int) (p : List Int) (x : Int) (i : Nat) (hi : i < l.length) (hx : rd l (i : Int) = x) (hl : l.length ≤ 100) (hp : p.length ≤ 100) (k : Nat) (hk : 2000 < k) (h : ¬ (1 ≤ x ∧ x ≤ 31))
    (hi1 : polyglotlaw27_TallyCounts.l0 k l e (tot (p ++ [x]) 31 : Int) ((i + 1 : Nat) : Int) (st (p ++ [x])) = some true) :
    polyglotlaw27_TallyCounts.j1 (k + 1) l e (tot p 31 : Int) (i : Int) false (st p) = some true := by
  have hw : wrap64 ((i : Int) + 1) = ((i + 1 : Nat) : Int) := by rw [wrap64_in (by omega) (by omega)]; omega
  have hta := tot_app p x
  have hto := total_eq (p ++ [x]) (by simp; omega) k (by omega)
  rw [if_neg h] at hta
  have ha : tally_Tally_Add.f (st p) x = some (false, st (p ++ [x])) := by unfold tally_Tally_Add.f; rw [if_neg h, ← st_same _ _ h]
  have hq : (tot (p ++ [x]) 31 : Int) = (tot p 31 : Int) := by omega
  simp only [polyglotlaw27_TallyCounts.j1]
  rw [if_pos (by omega), if_pos (by omega), hx, ha]
  simp only [Option.bind_some]
  rw [if_neg (by decide), if_neg (by decide), hto]
  simp only [Option.bind_some]
  rw [if_pos hq, hw, ← hq]
  exact hi1
theorem law_loop (l : List Int) (e : Int) (hl : l.length ≤ 100) (d : Nat) : ∀ (i k : Nat), i + d = l.length → 2200 + d + d < k → polyglotlaw27_TallyCounts.l0 k l e (tot (l.take i) 31 : Int) (i : Int) (st (l.take i)) = some true := by
  induction d with
  | zero =>
    intro i k hi hk
    obtain ⟨k, rfl⟩ : ∃ m, k = m + 1 := ⟨k - 1, by omega⟩
    obtain rfl : i = l.length := by omega
    simp only [polyglotlaw27_TallyCounts.l0]
    rw [if_neg (by omega), List.take_length]
    split
    · rename_i h; exact j2_eq l e (by omega) k (by omega) _ (by simp [h])
    · rename_i h; exact j2_eq l e (by omega) k (by omega) _ (by simp [h])
  | succ d ih =>
    intro i k hi hk
    obtain ⟨k, rfl⟩ : ∃ m, k = m + 1 + 1 := ⟨k - 2, by omega⟩
    have hlt : i < l.length := by omega
    have hrd : rd l (i : Int) = l[i] := by simp [rd, hlt]
    have hi1 := ih (i + 1) k (by omega) (by omega)
    have ht : l.take (i + 1) = l.take i ++ [l[i]] := by simp [List.take_append_getElem]
    rw [ht] at hi1
    simp only [polyglotlaw27_TallyCounts.l0]
    rw [if_pos (by omega), if_pos (by omega), hrd]
    have hp : (l.take i).length ≤ 100 := by have := List.length_take_le i l; omega
    by_cases h : 1 ≤ l[i] ∧ l[i] ≤ 31
    · have := j1_in l e (l.take i) l[i] i hlt hrd hl hp k (by omega) h hi1
      rw [if_pos h.1, show decide (l[i] ≤ 31) = true by simp [h.2]]; exact this
    · have := j1_out l e (l.take i) l[i] i hlt hrd hl hp k (by omega) h hi1
      by_cases h1 : l[i] ≥ 1
      · rw [if_pos h1, show decide (l[i] ≤ 31) = false by simp; omega]; exact this
      · rw [if_neg h1]; exact this
end TC
theorem TallyCounts : polyglotlaw27_TallyCounts.Pure := by
  intro l e _ _ _ _
  obtain ⟨K, hK⟩ : ∃ K, 2600 ≤ K := ⟨2600, Nat.le_refl _⟩
  refine ⟨K, ?_⟩
  unfold polyglotlaw27_TallyCounts.f
  by_cases h : (l.length : Int) > 100
  · rw [if_pos h, TC.awake_ge _ (by omega)]; rfl
  · rw [if_neg h]
    have := TC.law_loop l e (by omega) l.length 0 K (by omega) (by omega)
    rw [List.take_zero, TC.tot_nil, ← TC.st_nil] at this
    exact this
end Go.Proofs.Ytdamjkfggmmmeaa.Pure
