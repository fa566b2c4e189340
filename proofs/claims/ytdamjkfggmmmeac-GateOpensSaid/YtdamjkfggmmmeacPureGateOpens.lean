/- GateOpens: who bars each gate over any list, and which gates are open, is what the statement says. No condition beyond the statement's own. -/
import Derived.Test.YtdamjkfggmmmeacGV
namespace Go.Proofs.Ytdamjkfggmmmeac.Pure
open Go.RowKit Go.Proofs.Ytdamjkfggmmmeac.PGate Go.Proofs.YtdamjkfggmmmeacW.PrintWords Go.Proofs.YtdamjkfggmmmeacW.PrintLast Go.Proofs.Ytdamjkfggmmmeac.GV
theorem go_l1 (l : List S58) (hl : l.length ≤ 20) (k : Nat) (hk : 50 ≤ k) : polyglotlaw24_GateOpens.l1 (k + 4) l 0 1 = some true := by
  have be : ∀ g : Int, 1 ≤ g → g ≤ 3 → ((((barsL l g).length : Int) = 0) ↔ openB l g = true) := by
    intro g h1 h3
    unfold openB
    cases barsL l g with
    | nil => simp [h1, h3]
    | cons a b => simp; omega
  simp only [polyglotlaw24_GateOpens.l1]
  rw [bars_eq l 1 (by omega) _ (by omega), show wrap64 (1 + 1) = 2 by decide +kernel, bars_eq l 2 (by omega) _ (by omega), show wrap64 (2 + 1) = 3 by decide +kernel, bars_eq l 3 (by omega) _ (by omega), show wrap64 (3 + 1) = 4 by decide +kernel, Level_eq l (by omega) k (by omega), GV.awake_ge k (by omega)]
  simp only [Option.bind_some]
  simp only [be 1 (by decide) (by decide), be 2 (by decide) (by decide), be 3 (by decide) (by decide)]
  unfold levelOf
  cases openB l 1 <;> cases openB l 2 <;> cases openB l 3 <;> rfl
theorem go_l0 (l : List S58) (hl : l.length ≤ 20) (x : List Int) (d : Nat) : ∀ (i k : Nat), i + d = x.length → x.length ≤ 20 → 60 + d ≤ k → polyglotlaw24_GateOpens.l0 k l x x (i : Int) = some true := by
  induction d with
  | zero =>
    intro i k hi hx hk
    obtain ⟨k, rfl⟩ : ∃ m, k = (m + 4) + 1 := ⟨k - 5, by omega⟩
    simp only [polyglotlaw24_GateOpens.l0]
    rw [if_neg (by omega)]; exact go_l1 l hl k (by omega)
  | succ d ih =>
    intro i k hi hx hk
    obtain ⟨k, rfl⟩ : ∃ m, k = m + 1 := ⟨k - 1, by omega⟩
    simp only [polyglotlaw24_GateOpens.l0]
    rw [if_pos (by omega), if_pos (by omega), if_pos (by omega), if_pos trivial, wrap64_in (by omega) (by omega)]
    exact ih (i + 1) k (by omega) hx (by omega)
theorem GateOpens : polyglotlaw24_GateOpens.Pure := by
  intro l g _ _ _
  refine ⟨100, ?_⟩
  obtain ⟨b, hb, hfew⟩ := few08 l 100 (by decide)
  unfold polyglotlaw24_GateOpens.f
  rw [hb]; simp only [Option.bind_some]
  cases b with
  | false => rw [if_neg (by simp), GV.awake_ge 100 (by decide)]; rfl
  | true =>
    have hl := hfew rfl
    rw [if_pos rfl, Bars_eq l g (by omega) 100 (by omega)]; simp only [Option.bind_some]
    by_cases hg : 1 ≤ g ∧ g ≤ 3
    · rw [if_pos hg, if_neg (by omega), show decide (g > 3) = false by simp; omega]
      simp only [polyglotlaw24_GateOpens.j0]
      rw [if_neg (by simp), bars_eq l g (by omega) 99 (by omega)]; simp only [Option.bind_some]
      rw [if_pos trivial, Open_eq l g (by omega) 99 (by omega)]; simp only [Option.bind_some]
      have ho : (openB l g != (((barsL l g).length : Int) == 0)) = false := by
        unfold openB
        cases barsL l g with
        | nil => simp [hg]
        | cons a b => simp [hg]; omega
      rw [ho]
      simp only [polyglotlaw24_GateOpens.j1]
      rw [if_neg (by simp)]
      have := barsL_len l g
      exact go_l0 l hl (barsL l g) (barsL l g).length 0 98 (by omega) (by omega) (by omega)
    · rw [if_neg hg]
      have out : polyglotlaw24_GateOpens.j0 100 l g [] true = some true := by
        simp only [polyglotlaw24_GateOpens.j0]
        rw [if_pos trivial, if_pos (by simp), Open_eq l g (by omega) 99 (by omega)]; simp only [Option.bind_some]
        rw [if_neg (by unfold openB; simp; omega), GV.awake_ge 99 (by decide)]; rfl
      by_cases h1 : g < 1
      · rw [if_pos h1]; exact out
      · rw [if_neg h1, show decide (g > 3) = true by simp; omega]; exact out
end Go.Proofs.Ytdamjkfggmmmeac.Pure
