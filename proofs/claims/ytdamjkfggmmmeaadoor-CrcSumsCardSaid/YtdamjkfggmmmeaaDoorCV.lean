/- Plain facts on sums of bytes (chapter 3): what is summed in parts is summed as a whole. -/
import Derived.Test.YtdamjkfggmmmeaaDoorPCrcx1
namespace Go.Proofs.YtdamjkfggmmmeaaDoor.CV
open Go.RowKit Go.Proofs.YtdamjkfggmmmeaaDoor Go.Proofs.YtdamjkfggmmmeaaDoor.PCrc Go.Proofs.YtdamjkfggmmmeaaDoorW.PrintWords

theorem wf_u8 {n : Int} (h : (Lit.int .u8 n).wf = true) : 0 ≤ n ∧ n ≤ 255 := by
  simpa [Lit.wf, IntKind.min, IntKind.max, IntKind.bits, IntKind.signed] using h
theorem of_some (ps : List (List Int)) (h : ∀ p ∈ ps, ∀ x ∈ p, 0 ≤ x ∧ x ≤ 255) : crc_Of.f ps = some (Crc.sumF ps.flatten) := by
  unfold crc_Of.f
  rw [if_pos]
  rw [List.all_eq_true]
  intro p hp
  rw [List.all_eq_true]
  intro x hx
  simpa using h p hp x hx
theorem sum_some (l : List Int) (h : ∀ x ∈ l, 0 ≤ x ∧ x ≤ 255) : polyglotref03_Sum.f l = some (Crc.sumF l) := by
  unfold polyglotref03_Sum.f
  rw [if_pos]
  rw [List.all_eq_true]
  intro x hx
  simpa using h x hx
theorem sum_nil : Crc.sumF [] = 0 := by decide
theorem awake : polyglotlaw03_awake.f = some true := rfl
theorem sum_eq {l m : List Int} (h : Crc.sumF l = Crc.sumF m) : Crc.takeF Crc.ones l = Crc.takeF Crc.ones m := by
  unfold Crc.sumF at h
  have h1 : (~~~ Crc.takeF Crc.ones l).toNat = (~~~ Crc.takeF Crc.ones m).toNat := by omega
  exact BitVec.not_inj.1 (BitVec.eq_of_toNat_eq h1)
end Go.Proofs.YtdamjkfggmmmeaaDoor.CV
