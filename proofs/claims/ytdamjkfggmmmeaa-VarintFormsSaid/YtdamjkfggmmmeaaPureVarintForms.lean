/- VarintForms: each number's form is what dividing by 128 gives, and it has as many bytes as are told. No condition beyond the statement's own. -/
import Derived.Test.YtdamjkfggmmmeaaVV
namespace Go.Proofs.Ytdamjkfggmmmeaa.Pure
open Go.RowKit Go.Proofs.Ytdamjkfggmmmeaa.PVar Go.Proofs.YtdamjkfggmmmeaaW.PrintWords Go.Proofs.YtdamjkfggmmmeaaW.PrintLast Go.Proofs.Ytdamjkfggmmmeaa.VV

theorem VarintForms : polyglotlaw02_VarintForms.Pure := by
  intro v hv
  obtain ⟨v0, v1⟩ := VV.wf_u64 hv
  refine ⟨20, ?_⟩
  unfold polyglotlaw02_VarintForms.f
  rw [form_eq v v0 v1 20 (by decide)]; simp only [Option.bind_some]
  rw [of_eq v v0 v1 20 (by decide)]; simp only [Option.bind_some]
  rw [if_pos trivial, len_eq v v0 v1 20 (by decide)]; simp only [Option.bind_some]
  rw [if_pos trivial, VV.awake_k]; rfl
end Go.Proofs.Ytdamjkfggmmmeaa.Pure
