/- What gate.Bars, gate.Open and gate.Level, and the statement's own 'bars', compute, as plain functions on lists. -/
import Derived.Test.YtdamjkfggmmmeacPBdx
namespace Go.Proofs.Ytdamjkfggmmmeac.GVB
open Go Go.RowKit Go.Proofs.Ytdamjkfggmmmeac.PBd Go.Proofs.YtdamjkfggmmmeacW.PrintWords Go.Proofs.YtdamjkfggmmmeacW.PrintLast Go.Proofs.YtdamjkfggmmmeacW.PrintMore
theorem awake_k : polyglotlaw24_awake.f 20 = some true := by decide +kernel
theorem awake_ge (k : Nat) (h : 20 ≤ k) : polyglotlaw24_awake.f k = some true := at_rounds (polyglotlaw24_awake.mono) h awake_k
theorem wrap64_in {x : Int} (h0 : -9223372036854775808 ≤ x) (h1 : x ≤ 9223372036854775807) : wrap64 x = x := by unfold wrap64; omega
theorem few06_loop (l : List S28) (hl : l.length ≤ 40) (d : Nat) : ∀ (i : Nat) (s : Int) (k : Nat), i + d = l.length → d < k → ∃ b, polyglotlaw06_Few.l0 k l s (i : Int) = some b := by
  induction d with
  | zero =>
    intro i s k hi hk
    obtain ⟨k, rfl⟩ : ∃ m, k = m + 1 := ⟨k - 1, by omega⟩
    simp only [polyglotlaw06_Few.l0]
    rw [if_neg (by omega)]; exact ⟨_, rfl⟩
  | succ d ih =>
    intro i s k hi hk
    obtain ⟨k, rfl⟩ : ∃ m, k = m + 1 := ⟨k - 1, by omega⟩
    simp only [polyglotlaw06_Few.l0]
    rw [if_pos (by omega), if_pos (by omega)]
    split
    · exact ⟨_, rfl⟩
    · rw [wrap64_in (x := (i : Int) + 1) (by omega) (by omega)]
      exact ih (i + 1) _ k (by omega) (by omega)
theorem few06 (l : List S28) (k : Nat) (hk : 41 ≤ k) : ∃ b, polyglotlaw06_Few.f k l = some b := by
  unfold polyglotlaw06_Few.f
  by_cases h : (l.length : Int) > 40
  · rw [if_pos h]; exact ⟨_, rfl⟩
  · rw [if_neg h]; exact few06_loop l (by omega) l.length 0 0 k (by omega) (by omega)
theorem few08_loop (l : List S58) (hl : l.length ≤ 20) (d : Nat) : ∀ (i : Nat) (k : Nat), i + d = l.length → 41 + d < k → ∃ b, polyglotlaw08_Few.l0 k l (i : Int) = some b := by
  induction d with
  | zero =>
    intro i k hi hk
    obtain ⟨k, rfl⟩ : ∃ m, k = m + 1 := ⟨k - 1, by omega⟩
    simp only [polyglotlaw08_Few.l0]
    rw [if_neg (by omega)]; exact ⟨_, rfl⟩
  | succ d ih =>
    intro i k hi hk
    obtain ⟨k, rfl⟩ : ∃ m, k = m + 1 := ⟨k - 1, by omega⟩
    obtain ⟨b, hb⟩ := few06 ((rd_T58 l (i : Int)).f5) k (by omega)
    simp only [polyglotlaw08_Few.l0]
    rw [if_pos (by omega), if_pos (by omega), hb]
    simp only [Option.bind_some]
    split
    · rw [wrap64_in (x := (i : Int) + 1) (by omega) (by omega)]
      exact ih (i + 1) k (by omega) (by omega)
    · exact ⟨_, rfl⟩
/-- Whether a list is few comes to an end; and if it is few it has at most 20 records. -/
theorem few08 (l : List S58) (k : Nat) (hk : 63 ≤ k) : ∃ b, polyglotlaw08_Few.f k l = some b ∧ (b = true → l.length ≤ 20) := by
  unfold polyglotlaw08_Few.f
  by_cases h : (l.length : Int) > 20
  · rw [if_pos h]; exact ⟨_, rfl, fun e => by cases e⟩
  · rw [if_neg h]
    obtain ⟨b, hb⟩ := few08_loop l (by omega) l.length 0 k (by omega) (by omega)
    exact ⟨b, hb, fun _ => by omega⟩
/-- Does a record bar a gate? -/
def barsOne (g : Int) (r : S58) : Bool := !(r.f2 == 2) && !(r.f2 == 3) && decide (r.f3.f1 < g)
def barsL (l : List S58) (g : Int) : List Int := (l.filter (barsOne g)).map (·.f0)
theorem drop_at (l : List S58) (i : Nat) (h : i < l.length) : l.drop i = rd_T58 l (i : Int) :: l.drop (i + 1) := by
  rw [List.drop_eq_getElem_cons h]; congr 1; simp [rd_T58, List.getD_eq_getElem?_getD, List.getElem?_eq_getElem h]
theorem barsL_len (l : List S58) (g : Int) : (barsL l g).length ≤ l.length := by
  unfold barsL; rw [List.length_map]; exact List.length_filter_le _ _
theorem bars_loop (l : List S58) (g : Int) (hl : l.length ≤ 1000) (d : Nat) : ∀ (i : Nat) (acc : List Int) (k : Nat), i + d = l.length → acc.length + d < 17592186044416 → d < k →
    polyglotlaw24_bars.l0 k l g acc (i : Int) = some (acc ++ barsL (l.drop i) g) := by
  induction d with
  | zero =>
    intro i acc k hi ha hk
    obtain ⟨k, rfl⟩ : ∃ m, k = m + 1 := ⟨k - 1, by omega⟩
    simp only [polyglotlaw24_bars.l0]
    rw [if_neg (by omega), List.drop_eq_nil_of_le (by omega)]; simp [barsL]
  | succ d ih =>
    intro i acc k hi ha hk
    obtain ⟨k, rfl⟩ : ∃ m, k = m + 1 := ⟨k - 1, by omega⟩
    have hw : wrap64 ((i : Int) + 1) = ((i + 1 : Nat) : Int) := by rw [wrap64_in (by omega) (by omega)]; omega
    simp only [polyglotlaw24_bars.l0]
    rw [if_pos (by omega), if_pos (by omega), drop_at l i (by omega), hw]
    have e : barsL (rd_T58 l (i : Int) :: l.drop (i + 1)) g = if barsOne g (rd_T58 l (i : Int)) then (rd_T58 l (i : Int)).f0 :: barsL (l.drop (i + 1)) g else barsL (l.drop (i + 1)) g := by
      unfold barsL; rw [List.filter_cons]; split <;> simp
    rw [e]
    by_cases h2 : (rd_T58 l (i : Int)).f2 = 2
    · rw [if_pos h2, if_neg (by simp [barsOne, h2])]; exact ih (i + 1) acc k (by omega) (by omega) (by omega)
    · rw [if_neg h2]
      by_cases h3 : (rd_T58 l (i : Int)).f2 = 3
      · rw [if_pos h3, if_neg (by simp [barsOne, h3])]; exact ih (i + 1) acc k (by omega) (by omega) (by omega)
      · rw [if_neg h3]
        by_cases h4 : (rd_T58 l (i : Int)).f3.f1 < g
        · rw [if_pos h4, if_pos (by omega), if_pos (by simp [barsOne, h2, h3, h4]), ih (i + 1) _ k (by omega) (by simp; omega) (by omega)]; simp
        · rw [if_neg h4, if_neg (by simp [barsOne, h4])]; exact ih (i + 1) acc k (by omega) (by omega) (by omega)
theorem bars_eq (l : List S58) (g : Int) (hl : l.length ≤ 1000) (k : Nat) (hk : l.length < k) : polyglotlaw24_bars.f k l g = some (barsL l g) := by
  have := bars_loop l g hl l.length 0 [] k (by omega) (by simp; omega) hk
  simpa [polyglotlaw24_bars.f] using this
theorem isGate_eq (g : Int) : gate_isGate.f g = some (decide (1 ≤ g ∧ g ≤ 3)) := by
  unfold gate_isGate.f
  by_cases h : g ≥ 1
  · rw [if_pos h]; congr 1; simp; omega
  · rw [if_neg h]; congr 1; simp; omega
theorem Bars_loop (l : List S58) (g : Int) (hl : l.length ≤ 1000) (hg : 1 ≤ g ∧ g ≤ 3) (d : Nat) : ∀ (i : Nat) (acc : List Int) (k : Nat), i + d = l.length → acc.length + d < 17592186044416 → d < k →
    gate_Bars.l0 k g acc l (l.length : Int) (i : Int) = some (acc ++ barsL (l.drop i) g) := by
  induction d with
  | zero =>
    intro i acc k hi ha hk
    obtain ⟨k, rfl⟩ : ∃ m, k = m + 1 := ⟨k - 1, by omega⟩
    simp only [gate_Bars.l0]
    rw [if_neg (by omega), List.drop_eq_nil_of_le (by omega)]; simp [barsL]
  | succ d ih =>
    intro i acc k hi ha hk
    obtain ⟨k, rfl⟩ : ∃ m, k = m + 1 := ⟨k - 1, by omega⟩
    have hw : wrap64 ((i : Int) + 1) = ((i + 1 : Nat) : Int) := by rw [wrap64_in (by omega) (by omega)]; omega
    simp only [gate_Bars.l0]
    rw [if_pos (by omega), if_pos (by omega), if_pos (by omega), drop_at l i (by omega), hw, isGate_eq]
    simp only [Option.bind_some]
    rw [if_pos (by simpa using hg)]
    have e : barsL (rd_T58 l (i : Int) :: l.drop (i + 1)) g = if barsOne g (rd_T58 l (i : Int)) then (rd_T58 l (i : Int)).f0 :: barsL (l.drop (i + 1)) g else barsL (l.drop (i + 1)) g := by
      unfold barsL; rw [List.filter_cons]; split <;> simp
    rw [e]
    simp only [gate_counts.f]
    by_cases h2 : (rd_T58 l (i : Int)).f2 = 2
    · rw [if_pos h2]; simp only [Option.bind_some]
      rw [if_neg (by simp), if_neg (by simp [barsOne, h2])]; exact ih (i + 1) acc k (by omega) (by omega) (by omega)
    · rw [if_neg h2]; simp only [Option.bind_some]
      by_cases h3 : (rd_T58 l (i : Int)).f2 = 3
      · rw [if_neg (by simp [h3]), if_neg (by simp [barsOne, h3])]; exact ih (i + 1) acc k (by omega) (by omega) (by omega)
      · rw [if_pos (by simpa using h3)]
        by_cases h4 : (rd_T58 l (i : Int)).f3.f1 < g
        · rw [if_pos h4, if_pos (by omega), if_pos (by simp [barsOne, h2, h3, h4]), ih (i + 1) _ k (by omega) (by simp; omega) (by omega)]; simp
        · rw [if_neg h4, if_neg (by simp [barsOne, h4])]; exact ih (i + 1) acc k (by omega) (by omega) (by omega)
theorem Bars_none (l : List S58) (g : Int) (hl : l.length ≤ 1000) (hg : ¬ (1 ≤ g ∧ g ≤ 3)) (d : Nat) : ∀ (i : Nat) (k : Nat), i + d = l.length → d < k → gate_Bars.l0 k g [] l (l.length : Int) (i : Int) = some [] := by
  induction d with
  | zero =>
    intro i k hi hk
    obtain ⟨k, rfl⟩ : ∃ m, k = m + 1 := ⟨k - 1, by omega⟩
    simp only [gate_Bars.l0]
    rw [if_neg (by omega)]
  | succ d ih =>
    intro i k hi hk
    obtain ⟨k, rfl⟩ : ∃ m, k = m + 1 := ⟨k - 1, by omega⟩
    have hw : wrap64 ((i : Int) + 1) = ((i + 1 : Nat) : Int) := by rw [wrap64_in (by omega) (by omega)]; omega
    simp only [gate_Bars.l0]
    rw [if_pos (by omega), if_pos (by omega), if_pos (by omega), hw, isGate_eq]
    simp only [Option.bind_some]
    rw [if_neg (by simpa using hg)]; exact ih (i + 1) k (by omega) (by omega)
/-- Those who bar a gate, as the program tells them. -/
theorem Bars_eq (l : List S58) (g : Int) (hl : l.length ≤ 1000) (k : Nat) (hk : l.length < k) : gate_Bars.f k l g = some (if 1 ≤ g ∧ g ≤ 3 then barsL l g else []) := by
  unfold gate_Bars.f
  by_cases h : 1 ≤ g ∧ g ≤ 3
  · rw [if_pos h]
    have := Bars_loop l g hl h l.length 0 [] k (by omega) (by simp; omega) hk
    simpa using this
  · rw [if_neg h]
    have := Bars_none l g hl h l.length 0 k (by omega) hk
    simpa using this
/-- Is a gate open? -/
def openB (l : List S58) (g : Int) : Bool := decide (1 ≤ g ∧ g ≤ 3) && (barsL l g).isEmpty
theorem Open_eq (l : List S58) (g : Int) (hl : l.length ≤ 1000) (k : Nat) (hk : l.length < k) : gate_Open.f k l g = some (openB l g) := by
  unfold gate_Open.f openB
  rw [isGate_eq]; simp only [Option.bind_some]
  by_cases h : 1 ≤ g ∧ g ≤ 3
  · rw [if_pos (by simpa using h), Bars_eq l g hl k hk, if_pos h]; simp only [Option.bind_some]
    congr 1
    cases hb : barsL l g with
    | nil => simp [h]
    | cons a b => simp [h]; omega
  · rw [if_neg (by simpa using h)]; congr 1; simp [h]
def levelOf (l : List S58) : Int := if openB l 3 then 3 else if openB l 2 then 2 else if openB l 1 then 1 else 0
theorem Level_eq (l : List S58) (hl : l.length ≤ 1000) (k : Nat) (hk : l.length + 4 < k) : gate_Level.f k l = some (levelOf l) := by
  unfold gate_Level.f levelOf
  obtain ⟨k, rfl⟩ : ∃ m, k = m + 4 := ⟨k - 4, by omega⟩
  simp only [gate_Level.l0]
  rw [Open_eq l 3 hl _ (by omega), Open_eq l (wrap64 (3 - 1)) hl _ (by omega), Open_eq l (wrap64 (wrap64 (3 - 1) - 1)) hl _ (by omega), Open_eq l (wrap64 (wrap64 (wrap64 (3 - 1) - 1) - 1)) hl _ (by omega)]
  rw [show wrap64 (3 - 1) = 2 by decide +kernel, show wrap64 (2 - 1) = 1 by decide +kernel, show wrap64 (1 - 1) = 0 by decide +kernel]
  simp only [Option.bind_some]
  cases openB l 3 <;> cases openB l 2 <;> cases openB l 1 <;> rfl
/-- If a gate is open, all lesser ones are. -/
theorem open_lesser (l : List S58) (g h : Int) (hg : 1 ≤ g) (hh : g ≤ h) (ho : openB l h = true) : openB l g = true := by
  unfold openB at ho ⊢
  simp only [Bool.and_eq_true, decide_eq_true_eq, List.isEmpty_iff] at ho ⊢
  obtain ⟨⟨h1, h3⟩, hb⟩ := ho
  refine ⟨⟨hg, by omega⟩, ?_⟩
  unfold barsL at hb ⊢
  rw [List.map_eq_nil_iff, List.filter_eq_nil_iff] at hb ⊢
  intro r hr hc
  refine hb r hr ?_
  simp only [barsOne, Bool.and_eq_true, decide_eq_true_eq] at hc ⊢
  exact ⟨hc.1, by omega⟩
end Go.Proofs.Ytdamjkfggmmmeac.GVB
