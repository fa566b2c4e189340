/- GateRises: if a gate is open, all lesser ones are; and the level is the greatest that is open. No condition beyond the statement's own. -/
import Derived.Test.YtdamjkfggmmmeacGV
namespace Go.Proofs.Ytdamjkfggmmmeac.Pure
open Go.RowKit Go.Proofs.Ytdamjkfggmmmeac.PGate Go.Proofs.YtdamjkfggmmmeacW.PrintWords Go.Proofs.YtdamjkfggmmmeacW.PrintLast Go.Proofs.Ytdamjkfggmmmeac.GV
theorem GateRises : polyglotlaw24_GateRises.Pure := by
  intro l g h _ _ _ _
  refine ⟨100, ?_⟩
  obtain ⟨b, hb, hfew⟩ := few08 l 100 (by decide)
  unfold polyglotlaw24_GateRises.f
  rw [hb]; simp only [Option.bind_some]
  have out : polyglotlaw24_GateRises.j0 100 l g h true = some true := by
    simp only [polyglotlaw24_GateRises.j0]
    rw [if_pos trivial, GV.awake_ge 99 (by decide)]; rfl
  cases b with
  | false => rw [if_neg (by simp)]; exact out
  | true =>
    have hl := hfew rfl
    rw [if_pos rfl]
    by_cases h1 : g < 1
    · rw [if_pos h1]; exact out
    rw [if_neg h1]
    by_cases h2 : h < g
    · rw [if_pos h2]; exact out
    rw [if_neg h2]
    by_cases h3 : h > 3
    · rw [show decide (h > 3) = true by simpa using h3]; exact out
    rw [show decide (h > 3) = false by simpa using h3]
    simp only [polyglotlaw24_GateRises.j0]
    rw [if_neg (by simp), Open_eq l h (by omega) 99 (by omega), Open_eq l g (by omega) 99 (by omega), Level_eq l (by omega) 99 (by omega), GV.awake_ge 99 (by decide)]
    simp only [Option.bind_some]
    have hlev : openB l g = decide (levelOf l ≥ g) := by
      have m := fun a b => open_lesser l a b
      unfold levelOf
      have hg : g = 1 ∨ g = 2 ∨ g = 3 := by omega
      cases e3 : openB l 3 with
      | true =>
        rw [m g 3 (by omega) (by omega) e3]; simp; omega
      | false =>
        cases e2 : openB l 2 with
        | true =>
          rcases hg with rfl | rfl | rfl
          · rw [m 1 2 (by omega) (by omega) e2]; simp
          · rw [e2]; simp
          · rw [e3]; simp
        | false =>
          cases e1 : openB l 1 with
          | true => rcases hg with rfl | rfl | rfl <;> simp [e1, e2, e3]
          | false => rcases hg with rfl | rfl | rfl <;> simp [e1, e2, e3]
    have hmono : openB l h = true → openB l g = true := open_lesser l g h (by omega) (by omega)
    cases eh : openB l h with
    | true =>
      have eg := hmono eh
      rw [if_pos rfl, eg, if_pos rfl, if_pos rfl]
      rw [eg] at hlev
      rw [if_pos (by simpa using hlev.symm)]
    | false =>
      rw [if_neg (by simp)]
      cases eg : openB l g with
      | true =>
        rw [eg] at hlev
        rw [if_pos (by simpa using hlev.symm), if_pos rfl]
      | false =>
        rw [eg] at hlev
        rw [if_neg (by simpa using hlev.symm), if_neg (by simp)]
end Go.Proofs.Ytdamjkfggmmmeac.Pure
