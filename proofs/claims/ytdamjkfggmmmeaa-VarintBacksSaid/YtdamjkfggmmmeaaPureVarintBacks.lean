/- VarintBacks: each number is read back from its form, whatever stands behind it. No condition beyond the statement's own. -/
import Derived.Test.YtdamjkfggmmmeaaVV
namespace Go.Proofs.Ytdamjkfggmmmeaa.Pure
open Go.RowKit Go.Proofs.Ytdamjkfggmmmeaa.PVar Go.Proofs.YtdamjkfggmmmeaaW.PrintWords Go.Proofs.YtdamjkfggmmmeaaW.PrintLast Go.Proofs.Ytdamjkfggmmmeaa.VV

theorem VarintBacks : polyglotlaw02_VarintBacks.Pure := by
  intro v l hv _ hl _
  obtain ⟨v0, v1⟩ := VV.wf_u64 hv
  obtain ⟨hc, hval, h10, hlast⟩ := own_form v v0 v1
  refine ⟨20, ?_⟩
  unfold polyglotlaw02_VarintBacks.f
  by_cases h : (l.length : Int) > 40
  · rw [if_pos h, VV.awake_k]; rfl
  · rw [if_neg h, of_eq v v0 v1 20 (by decide)]; simp only [Option.bind_some]
    rw [if_pos (by simp; omega), if_pos (by simp; omega)]
    have hg := get_ok ([] ++ ofN 10 v ++ l) (ofN 10 v) l (by simp) hc h10 hlast 20 (by decide)
    rw [hg]; simp only [Option.bind_some]
    rw [if_pos trivial, if_pos hval, if_pos trivial, len_eq v v0 v1 20 (by decide)]; simp only [Option.bind_some]
    rw [if_pos trivial, VV.awake_k]; rfl
end Go.Proofs.Ytdamjkfggmmmeaa.Pure
