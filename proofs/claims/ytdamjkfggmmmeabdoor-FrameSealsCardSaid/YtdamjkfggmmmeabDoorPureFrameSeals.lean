/- Chapter 4: the frame of any body of up to 300 bytes is its head, the body and the sum, in generations 1 to 3; in any other there is none; of longer bodies it says nothing. -/
import Derived.Test.YtdamjkfggmmmeabDoorPFrx2
import Derived.Test.YtdamjkfggmmmeabDoorFV
namespace Go.Proofs.YtdamjkfggmmmeabDoor.Pure
open Go.RowKit Go.Proofs.YtdamjkfggmmmeabDoor.PFr Go.Proofs.YtdamjkfggmmmeabDoorW.PrintWords Go.Proofs.YtdamjkfggmmmeabDoorW.PrintLast

theorem FrameSeals : polyglotlaw04_FrameSeals.Pure := by
  intro g l _ _ hw
  have hb := FV.wf_bytes hw
  refine ⟨1, ?_⟩
  unfold polyglotlaw04_FrameSeals.f
  by_cases h3 : (l.length : Int) > 300
  · rw [if_pos h3, FV.awake]; rfl
  · rw [if_neg h3]
    by_cases hg : 1 ≤ g ∧ g ≤ 3
    · rw [FV.seal_ok hg.1 hg.2 (by omega) hb]
      simp only [Option.bind_some]
      rw [if_neg (by omega), decide_eq_false (by omega)]
      simp only [polyglotlaw04_FrameSeals.j0]
      rw [if_neg (by simp), if_pos trivial, FV.laid_ok g (by omega) hb]
      simp only [Option.bind_some]
      rw [if_pos trivial, FV.awake]
      rfl
    · rw [FV.seal_range l hg]
      simp only [Option.bind_some]
      have e : ∀ b : Bool, b = true → polyglotlaw04_FrameSeals.j0 1 g l [] 5 b = some true := fun b hb => by
        subst hb
        simp only [polyglotlaw04_FrameSeals.j0]
        rw [if_pos trivial, if_pos (by simp), if_pos trivial, FV.awake]
        rfl
      by_cases h1 : g < 1
      · rw [if_pos h1]; exact e _ rfl
      · rw [if_neg h1]; exact e _ (decide_eq_true (by omega))

end Go.Proofs.YtdamjkfggmmmeabDoor.Pure
