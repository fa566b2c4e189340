/- GateBoards: a board's latches hold when each gate was open first. -/
import Derived.Test.YtdamjkfggmmmeacPBdx3
import Derived.Test.YtdamjkfggmmmeacGVB
namespace Go.Proofs.Ytdamjkfggmmmeac.Pure
open Go Go.RowKit Go.Proofs.Ytdamjkfggmmmeac.PBd Go.Proofs.YtdamjkfggmmmeacW.PrintWords Go.Proofs.YtdamjkfggmmmeacW.PrintLast Go.Proofs.Ytdamjkfggmmmeac.GVB
set_option linter.unusedVariables false
set_option linter.unusedSimpArgs false
namespace GBd
abbrev St := List Int × List (Option Int)
/-- One gate's step of a look. -/
def step (p : Bool) (i : Nat) (now : Int) (x : St) : St := if p = true ∧ x.2[i]? = some none then (x.1 ++ [(i : Int) + 1], x.2.set i (some now)) else x
theorem step_len (p : Bool) (i : Nat) (now : Int) (x : St) : (step p i now x).2.length = x.2.length := by unfold step; split <;> simp
theorem step_acc (p : Bool) (i : Nat) (now : Int) (x : St) : (step p i now x).1.length ≤ x.1.length + 1 := by unfold step; split <;> simp
theorem step_pre (p : Bool) (i : Nat) (now : Int) (x : St) : ∃ t, (step p i now x).1 = x.1 ++ t := by unfold step; split; exact ⟨_, rfl⟩; exact ⟨[], by simp⟩
theorem look_step (l : List S58) (now : Int) (hl : l.length ≤ 1000) (i : Nat) (hi : i < 3) (x : St) (hx : x.2.length = 3) (ha : x.1.length ≤ 10) (k : Nat) (hk : 1000 < k) :
    gate_Board_Look.l0 (k + 1) l now x.1 ((i + 1 : Nat) : Int) x.2 = gate_Board_Look.l0 k l now (step (openB l ((i + 1 : Nat) : Int)) i now x).1 ((i + 1 + 1 : Nat) : Int) (step (openB l ((i + 1 : Nat) : Int)) i now x).2 := by
  have hw : wrap64 (((i + 1 : Nat) : Int) + 1) = ((i + 1 + 1 : Nat) : Int) := by rw [wrap64_in (by omega) (by omega)]; omega
  have hw1 : wrap64 (((i + 1 : Nat) : Int) - 1) = (i : Int) := by rw [wrap64_in (by omega) (by omega)]; omega
  have hlt : i < x.2.length := by omega
  rw [gate_Board_Look.l0, hw, hw1, if_pos (by omega), Open_eq l _ hl k (by omega)]
  simp only [Option.bind_some]
  unfold step
  by_cases hp : openB l ((i + 1 : Nat) : Int) = true
  · rw [if_pos hp, if_pos (by omega), if_pos (by omega)]
    have hq : x.2[i]? = some x.2[i] := List.getElem?_eq_getElem hlt
    have hto : ((i : Int).toNat) = i := by omega
    unfold board_Latch_Open.f Board.openF
    rw [hto, hq]
    cases hv : x.2[i] with
    | none =>
      simp only [Option.bind_some]
      rw [if_pos trivial, if_pos (by omega), if_pos ⟨hp, trivial⟩]
      simp
    | some v =>
      simp only [Option.bind_some]
      rw [if_neg (by simp), if_neg (by simp)]
  · rw [if_neg hp, if_neg (fun e => hp e.1)]
def run (l : List S58) (now : Int) (s : List (Option Int)) : Nat → St
  | 0 => ([], s)
  | i + 1 => step (openB l ((i + 1 : Nat) : Int)) i now (run l now s i)
theorem run_len (l : List S58) (now : Int) (s : List (Option Int)) (i : Nat) : (run l now s i).2.length = s.length := by
  induction i with
  | zero => rfl
  | succ i ih => rw [run, step_len, ih]
theorem run_acc (l : List S58) (now : Int) (s : List (Option Int)) (i : Nat) : (run l now s i).1.length ≤ i := by
  induction i with
  | zero => simp [run]
  | succ i ih => have := step_acc (openB l ((i + 1 : Nat) : Int)) i now (run l now s i); rw [run]; omega
theorem run_pre (l : List S58) (now : Int) (s : List (Option Int)) (i d : Nat) : ∃ t, (run l now s (i + d)).1 = (run l now s i).1 ++ t := by
  induction d with
  | zero => exact ⟨[], by simp⟩
  | succ d ih =>
    obtain ⟨t, ht⟩ := ih
    obtain ⟨u, hu⟩ := step_pre (openB l ((i + d + 1 : Nat) : Int)) (i + d) now (run l now s (i + d))
    exact ⟨t ++ u, by rw [← Nat.add_assoc, run, hu, ht, List.append_assoc]⟩
theorem Look_eq (l : List S58) (now : Int) (s : List (Option Int)) (hl : l.length ≤ 1000) (hs : s.length = 3) (k : Nat) (hk : 1010 < k) : gate_Board_Look.f k s l now = some (run l now s 3) := by
  obtain ⟨k, rfl⟩ : ∃ m, k = m + 1 + 1 + 1 + 1 := ⟨k - 4, by omega⟩
  have h0 := look_step l now hl 0 (by omega) (run l now s 0) ((run_len l now s 0).trans hs) (by have := run_acc l now s 0; omega) (k + 1 + 1 + 1) (by omega)
  have h1 := look_step l now hl 1 (by omega) (run l now s 1) ((run_len l now s 1).trans hs) (by have := run_acc l now s 1; omega) (k + 1 + 1) (by omega)
  have h2 := look_step l now hl 2 (by omega) (run l now s 2) ((run_len l now s 2).trans hs) (by have := run_acc l now s 2; omega) (k + 1) (by omega)
  unfold gate_Board_Look.f
  refine h0.trans (h1.trans (h2.trans ?_))
  rw [gate_Board_Look.l0, if_neg (by omega)]
  rfl
/-- The law's own list of when each gate was first open. -/
def F (s : List (Option Int)) : List Int := (-1) :: s.map (·.getD (-1))
def Nn (s : List (Option Int)) : Prop := ∀ v, some v ∈ s → 0 ≤ v
theorem F_len (s : List (Option Int)) : (F s).length = s.length + 1 := by simp [F]
theorem F_at (s : List (Option Int)) (i : Nat) (h : i < s.length) : rd (F s) ((i + 1 : Nat) : Int) = (s[i]).getD (-1) := by
  simp [rd, F, h]
theorem F_set (s : List (Option Int)) (i : Nat) (v : Int) : (F s).set (((i + 1 : Nat) : Int)).toNat v = F (s.set i (some v)) := by
  have : (((i + 1 : Nat) : Int)).toNat = i + 1 := by omega
  rw [this]; simp [F, List.map_set]
theorem run_nn (l : List S58) (now : Int) (s : List (Option Int)) (hn : Nn s) (h0 : 0 ≤ now) (i : Nat) : Nn (run l now s i).2 := by
  induction i with
  | zero => exact hn
  | succ i ih =>
    rw [run]; unfold step; split
    · intro v hv
      rcases List.mem_or_eq_of_mem_set hv with h | h
      · exact ih v h
      · injection h with h; omega
    · exact ih
theorem open_in (l : List S58) (i : Nat) (hi : i < 3) : openB l ((i + 1 : Nat) : Int) = (barsL l ((i + 1 : Nat) : Int)).isEmpty := by
  unfold openB; rw [show decide (1 ≤ ((i + 1 : Nat) : Int) ∧ ((i + 1 : Nat) : Int) ≤ 3) = true by simp; omega]; simp
theorem empty_len (b : List Int) : ((b.length : Int) == 0) = b.isEmpty := by cases b <;> simp; omega
theorem lt_of {a b c : Nat} (h : b = a + 1 + c) : ¬ ((a : Int) ≥ (b : Int)) ∧ (0 : Int) ≤ (a : Int) ∧ (a : Int) < (b : Int) := by omega
theorem law_step (x0 : List (List S58)) (x1 : Int) (n : Nat) (hn : n < x0.length) (hx : x0.length ≤ 12) (hl : (rd_L8 x0 (n : Int)).length ≤ 1000) (s : List (Option Int)) (hs : s.length = 3) (hnn : Nn s) (i : Nat) (hi : i < 3) (S' : List (Option Int)) (k : Nat) (hk : 2000 < k) :
    let R := run (rd_L8 x0 (n : Int)) (10 * (n : Int)) s
    polyglotlaw24_GateBoards.l1 (k + 1 + 1) x0 x1 (F (R i).2) (n : Int) (R 3).1 ((R i).1.length : Int) ((i + 1 : Nat) : Int) S' =
    polyglotlaw24_GateBoards.l1 k x0 x1 (F (R (i + 1)).2) (n : Int) (R 3).1 ((R (i + 1)).1.length : Int) ((i + 1 + 1 : Nat) : Int) S' := by
  intro R
  have hR : R (i + 1) = step (openB (rd_L8 x0 (n : Int)) ((i + 1 : Nat) : Int)) i (10 * (n : Int)) (R i) := rfl
  have hlen : (R i).2.length = 3 := (run_len _ _ s i).trans hs
  have hnr : Nn (R i).2 := run_nn _ _ s hnn (by omega) i
  have hacc : (R i).1.length ≤ i := run_acc _ _ s i
  have hpre := run_pre (rd_L8 x0 (n : Int)) (10 * (n : Int)) s (i + 1) (2 - i)
  rw [show i + 1 + (2 - i) = 3 by omega] at hpre
  obtain ⟨t, ht⟩ := hpre
  have ht : (R 3).1 = (R (i + 1)).1 ++ t := ht
  have hw : wrap64 (((i + 1 : Nat) : Int) + 1) = ((i + 1 + 1 : Nat) : Int) := by rw [wrap64_in (by omega) (by omega)]; omega
  have hwn : wrap64 (10 * (n : Int)) = 10 * (n : Int) := wrap64_in (by omega) (by omega)
  have hwl : wrap64 (((R i).1.length : Int) + 1) = (((R i).1.length + 1 : Nat) : Int) := by rw [wrap64_in (by omega) (by omega)]; omega
  generalize (R 3).1 = out at ht ⊢
  generalize hRi : R i = x at *
  rw [hR]
  have hlt : i < x.2.length := by omega
  rw [polyglotlaw24_GateBoards.l1, if_pos (by omega), if_pos (by omega), F_len, if_pos (by omega), F_at _ _ hlt]
  have hq : x.2[i]? = some x.2[i] := List.getElem?_eq_getElem hlt
  cases hv : x.2[i] with
  | some v =>
    have h0 : 0 ≤ v := hnr v (by rw [← hv]; exact List.getElem_mem hlt)
    rw [if_neg (by simpa using h0), polyglotlaw24_GateBoards.j2, if_neg (by simp), hw]
    unfold step
    rw [if_neg (by rw [hq, hv]; simp)]
  | none =>
    rw [if_pos (by simp), if_pos (by omega), if_pos (by omega), bars_eq _ _ hl (k + 1) (by omega)]
    simp only [Option.bind_some]
    rw [polyglotlaw24_GateBoards.j2, hw, hwn, hwl, empty_len, ← open_in _ _ hi, F_len]
    by_cases hp : openB (rd_L8 x0 (n : Int)) ((i + 1 : Nat) : Int) = true
    · have hst : step (openB (rd_L8 x0 (n : Int)) ((i + 1 : Nat) : Int)) i (10 * (n : Int)) x = (x.1 ++ [(i : Int) + 1], x.2.set i (some (10 * (n : Int)))) := by
        unfold step; rw [if_pos]; exact ⟨hp, by rw [hq, hv]⟩
      rw [hR, hst] at ht
      have hol : out.length = x.1.length + 1 + t.length := by rw [ht]; simp; omega
      have hrd : rd out (x.1.length : Int) = ((i + 1 : Nat) : Int) := by rw [ht]; simp [rd]
      obtain ⟨q1, q2, q3⟩ := lt_of hol
      rw [hst, if_pos hp, if_pos (by omega), if_pos (by omega), if_neg q1, if_pos q2, if_pos q3, if_pos hrd, F_set]
      simp
    · have hst : step (openB (rd_L8 x0 (n : Int)) ((i + 1 : Nat) : Int)) i (10 * (n : Int)) x = x := by
        unfold step; rw [if_neg]; exact fun e => hp e.1
      rw [hst, if_neg hp]
theorem First_eq (s : List (Option Int)) (g : Int) (hs : s.length = 3) : gate_Board_First.f s g = some (if 1 ≤ g ∧ g ≤ 3 then ((s.getD (g - 1).toNat none).getD 0, (s.getD (g - 1).toNat none).isSome, s) else (0, false, s)) := by
  unfold gate_Board_First.f
  rw [isGate_eq]
  simp only [Option.bind_some]
  by_cases h : 1 ≤ g ∧ g ≤ 3
  · have hw : wrap64 (g - 1) = g - 1 := wrap64_in (by omega) (by omega)
    have hlt : (g - 1).toNat < s.length := by omega
    have hq : s[(g - 1).toNat]? = some s[(g - 1).toNat] := List.getElem?_eq_getElem hlt
    rw [hw, if_pos (by simp [h]), if_pos (by omega), if_pos (by omega), if_pos h]
    unfold board_Latch_At.f Board.atF
    rw [hq]
    simp only [List.getD_eq_getElem?_getD, hq, Option.getD_some]
    cases s[(g - 1).toNat] <;> simp
  · rw [if_neg (by simpa using h), if_neg h]
theorem awake_j (k : Nat) (h : 20 ≤ k) : ((polyglotlaw24_awake.f k).bind fun t => some t) = some true := by rw [awake_ge k h]; rfl
theorem last (x0 : List (List S58)) (g : Int) (s : List (Option Int)) (hs : s.length = 3) (hnn : Nn s) (k : Nat) (hk : 100 < k) : polyglotlaw24_GateBoards.l0 k x0 g (F s) (x0.length : Int) s = some true := by
  obtain ⟨k, rfl⟩ : ∃ m, k = m + 1 + 1 := ⟨k - 2, by omega⟩
  rw [polyglotlaw24_GateBoards.l0, if_neg (by omega), First_eq s g hs]
  simp only [Option.bind_some]
  by_cases h : 1 ≤ g ∧ g ≤ 3
  · obtain ⟨i, rfl⟩ : ∃ i : Nat, g = ((i + 1 : Nat) : Int) := ⟨(g - 1).toNat, by omega⟩
    have hlt : i < s.length := by omega
    have hto : (((i + 1 : Nat) : Int) - 1).toNat = i := by omega
    have hq : s.getD i none = s[i] := by simp [hlt]
    rw [if_pos h, if_neg (by omega), if_neg (by omega), if_pos (by omega), F_len, if_pos (by omega), F_at s i hlt, hto, hq, polyglotlaw24_GateBoards.j3]
    cases hv : s[i] with
    | none =>
      rw [if_pos (by simp), if_pos (by simp), if_neg (by simp)]
      exact awake_j k (by omega)
    | some v =>
      have h0 : 0 ≤ v := hnn v (by rw [← hv]; exact List.getElem_mem hlt)
      rw [if_neg (by simpa using h0), if_pos (by omega), F_len, if_pos (by omega), F_at s i hlt, hv, if_pos (by simp), if_pos (by simp)]
      exact awake_j k (by omega)
  · rw [if_neg h]
    have hj : polyglotlaw24_GateBoards.j3 (k + 1) g (F s) 0 false true = some true := by
      rw [polyglotlaw24_GateBoards.j3, if_pos rfl, if_pos rfl, if_neg (by simp)]
      exact awake_j k (by omega)
    by_cases h1 : g < 1
    · rw [if_pos h1]; exact hj
    · rw [if_neg h1, if_pos (by omega)]; exact hj
theorem law_loop (x0 : List (List S58)) (x1 : Int) (hx : x0.length ≤ 12) (d : Nat) : ∀ (n : Nat) (s : List (Option Int)) (k : Nat), n + d = x0.length → s.length = 3 → Nn s → 2100 + 9 * d < k → polyglotlaw24_GateBoards.l0 k x0 x1 (F s) (n : Int) s = some true := by
  induction d with
  | zero =>
    intro n s k hn hs hnn hk
    obtain rfl : n = x0.length := by omega
    exact last x0 x1 s hs hnn k (by omega)
  | succ d ih =>
    intro n s k hn hs hnn hk
    obtain ⟨k, rfl⟩ : ∃ m, k = m + 1 + 1 + 1 + 1 + 1 + 1 + 1 + 1 := ⟨k - 8, by omega⟩
    obtain ⟨b, hb, hbl⟩ := few08 (rd_L8 x0 (n : Int)) (k + 1 + 1 + 1 + 1 + 1 + 1 + 1) (by omega)
    have hwn : wrap64 (10 * (n : Int)) = 10 * (n : Int) := wrap64_in (by omega) (by omega)
    have hw : wrap64 ((n : Int) + 1) = ((n + 1 : Nat) : Int) := by rw [wrap64_in (by omega) (by omega)]; omega
    rw [polyglotlaw24_GateBoards.l0, if_pos (by omega), if_pos (by omega), hb, hwn]
    simp only [Option.bind_some]
    cases b with
    | false => rw [if_neg (by simp)]; exact awake_j _ (by omega)
    | true =>
      have hl := hbl rfl
      rw [if_pos rfl, Look_eq _ _ s (by omega) hs _ (by omega)]
      simp only [Option.bind_some]
      have l0 := law_step x0 x1 n (by omega) hx (by omega) s hs hnn 0 (by omega) (run (rd_L8 x0 (n : Int)) (10 * (n : Int)) s 3).2 (k + 1 + 1 + 1 + 1 + 1) (by omega)
      have l1 := law_step x0 x1 n (by omega) hx (by omega) s hs hnn 1 (by omega) (run (rd_L8 x0 (n : Int)) (10 * (n : Int)) s 3).2 (k + 1 + 1 + 1) (by omega)
      have l2 := law_step x0 x1 n (by omega) hx (by omega) s hs hnn 2 (by omega) (run (rd_L8 x0 (n : Int)) (10 * (n : Int)) s 3).2 (k + 1) (by omega)
      refine l0.trans (l1.trans (l2.trans ?_))
      rw [polyglotlaw24_GateBoards.l1, if_neg (by omega), if_pos rfl, hw]
      exact ih (n + 1) _ k (by omega) ((run_len _ _ s 3).trans hs) (run_nn _ _ s hnn (by omega) 3) (by omega)
end GBd
theorem GateBoards : polyglotlaw24_GateBoards.Pure := by
  intro x0 x1 _ _ _
  obtain ⟨K, hK⟩ : ∃ K, 2300 ≤ K := ⟨2300, Nat.le_refl _⟩
  refine ⟨K, ?_⟩
  unfold polyglotlaw24_GateBoards.f
  by_cases h : (x0.length : Int) > 12
  · rw [if_pos h]; exact GBd.awake_j K (by omega)
  · rw [if_neg h]
    exact GBd.law_loop x0 x1 (by omega) x0.length 0 (List.replicate 3 none) K (by omega) (by simp) (fun v hv => by simp at hv) (by omega)
end Go.Proofs.Ytdamjkfggmmmeac.Pure
