/- Chapter 4: a body of more than 65499 bytes and a datagram of more than 65507, up to 70000, are refused; of fewer it says nothing. -/
import Derived.Test.YtdamjkfggmmmeabDoorPFrx4
import Derived.Test.YtdamjkfggmmmeabDoorFV
namespace Go.Proofs.YtdamjkfggmmmeabDoor.Pure
open Go.RowKit Go.Proofs.YtdamjkfggmmmeabDoor.PFr Go.Proofs.YtdamjkfggmmmeabDoorW.PrintWords Go.Proofs.YtdamjkfggmmmeabDoorW.PrintLast

theorem FrameLong : polyglotlaw04_FrameLong.Pure := by
  intro n g c _ _ _
  refine ⟨2, ?_⟩
  have out : ∀ k : Nat, polyglotlaw04_FrameLong.j0 (k + 1) n g c true = some true := fun k => by
    simp only [polyglotlaw04_FrameLong.j0]
    rw [if_pos trivial, FV.awake]; rfl
  unfold polyglotlaw04_FrameLong.f
  by_cases h1 : n ≤ 65499
  · rw [if_pos h1]; exact out 1
  · rw [if_neg h1]
    by_cases h2 : n > 70000
    · rw [if_pos h2]; exact out 1
    · rw [if_neg h2]
      by_cases h3 : g < 1
      · rw [if_pos h3]; exact out 1
      · rw [if_neg h3]
        by_cases h4 : g > 3
        · rw [decide_eq_true h4]; exact out 1
        · rw [decide_eq_false h4]
          simp only [polyglotlaw04_FrameLong.j0]
          have w1 : wrap64 (n - 1) = n - 1 := by unfold wrap64; omega
          rw [if_neg (by simp), if_pos (by omega), if_pos (by omega)]
          simp only [Option.bind_some, List.length_replicate]
          rw [w1, if_pos (by omega), if_pos (by omega)]
          have hl : ((List.replicate n.toNat (0 : Int)).set (n - 1).toNat c).length = n.toNat := by simp
          obtain ⟨y, hy⟩ : ∃ y, y = (List.replicate n.toNat (0 : Int)).set (n - 1).toNat c := ⟨_, rfl⟩
          rw [← hy] at hl ⊢
          have hs : frame_Seal.f g y = some ([], 3) := by
            unfold frame_Seal.f
            rw [if_pos (by omega), if_neg (by omega)]
          rw [hs]
          simp only [Option.bind_some]
          rw [if_pos (by simp)]
          simp only [polyglotlaw04_FrameLong.j1]
          rw [if_neg (by simp)]
          by_cases h5 : n ≤ 65507
          · rw [if_pos h5, FV.awake]; rfl
          · have ho : frame_Open.f y = some (0, [], 3) := by
              unfold frame_Open.f
              rw [if_pos (by omega)]
            rw [if_neg h5, ho]
            simp only [Option.bind_some]
            rw [if_pos trivial, if_pos (by simp), if_pos trivial, FV.awake]
            rfl

end Go.Proofs.YtdamjkfggmmmeabDoor.Pure
