/- Chapter 3: however bytes are cut into parts, the program's sum of the parts is the reference's sum of the whole, for up to 300 bytes; of more it says nothing. -/
import Derived.Test.YtdamjkfggmmmeaaDoorPCrcx2
import Derived.Test.YtdamjkfggmmmeaaDoorCV
namespace Go.Proofs.YtdamjkfggmmmeaaDoor.Pure
open Go.RowKit Go.Proofs.YtdamjkfggmmmeaaDoor.PCrc Go.Proofs.YtdamjkfggmmmeaaDoorW.PrintWords Go.Proofs.YtdamjkfggmmmeaaDoorW.PrintLast

theorem CrcSums : polyglotlaw03_CrcSums.Pure := by
  intro l at_ hl hb ha
  have hb : ∀ x ∈ l, 0 ≤ x ∧ x ≤ 255 := fun x hx => CV.wf_u8 (hb x hx)
  refine ⟨2, ?_⟩
  unfold polyglotlaw03_CrcSums.f
  by_cases h3 : (l.length : Int) > 300
  · rw [if_pos h3]; rfl
  · rw [if_neg h3, CV.of_some [l] (by simpa using hb), CV.sum_some l hb]
    simp only [Option.bind_some]
    rw [if_pos (by simp), CV.of_some [] (by simp)]
    simp only [Option.bind_some, List.flatten_nil, CV.sum_nil]
    simp only [polyglotlaw03_CrcSums.j0]
    rw [if_neg (by simp)]
    by_cases h0 : at_ < 0
    · rw [if_pos h0]; rfl
    · rw [if_neg h0]
      by_cases h1 : at_ > (l.length : Int)
      · rw [decide_eq_true h1]; rfl
      · rw [decide_eq_false h1]
        simp only [polyglotlaw03_CrcSums.j1]
        have ht : ∀ x ∈ l.take at_.toNat, 0 ≤ x ∧ x ≤ 255 := fun x hx => hb x (List.mem_of_mem_take hx)
        have hd : ∀ x ∈ l.drop at_.toNat, 0 ≤ x ∧ x ≤ 255 := fun x hx => hb x (List.mem_of_mem_drop hx)
        rw [if_neg (by simp), if_pos (by omega), if_pos (by omega)]
        simp only [Option.bind_some]
        rw [CV.of_some [l.take at_.toNat, l.drop at_.toNat] (by simpa using ⟨ht, hd⟩), CV.sum_some l hb]
        simp only [Option.bind_some]
        rw [if_pos (by simp), CV.of_some [l.take at_.toNat, [], l.drop at_.toNat] (by simpa using ⟨ht, hd⟩)]
        simp only [Option.bind_some]
        rw [if_pos (by simp)]
        rfl
end Go.Proofs.YtdamjkfggmmmeaaDoor.Pure
