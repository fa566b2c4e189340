/- Chapter 4: what was sealed of up to 300 bytes is opened, and with one byte turned it is not; of longer bodies and other generations than 1 to 3 it says nothing. -/
import Derived.Test.YtdamjkfggmmmeabDoorPFrx4
import Derived.Test.YtdamjkfggmmmeabDoorFV
namespace Go.Proofs.YtdamjkfggmmmeabDoor.Pure
open Go.RowKit Go.Proofs.YtdamjkfggmmmeabDoor.PFr Go.Proofs.YtdamjkfggmmmeabDoorW.PrintWords Go.Proofs.YtdamjkfggmmmeabDoorW.PrintLast

theorem FrameBack : polyglotlaw04_FrameBack.Pure := by
  intro g l at_ y _ _ hw _ hyw
  have hb := FV.wf_bytes hw
  have hy := FV.wf_u8 hyw
  refine ⟨3, ?_⟩
  have out : ∀ k : Nat, polyglotlaw04_FrameBack.j0 (k + 1) g l at_ y true = some true := fun k => by
    simp only [polyglotlaw04_FrameBack.j0]
    rw [if_pos trivial, FV.awake]; rfl
  unfold polyglotlaw04_FrameBack.f
  by_cases h3 : (l.length : Int) > 300
  · rw [if_pos h3]; exact out 2
  · rw [if_neg h3]
    by_cases h1 : g < 1
    · rw [if_pos h1]; exact out 2
    · rw [if_neg h1]
      by_cases h4 : g > 3
      · rw [decide_eq_true h4]; exact out 2
      · rw [decide_eq_false h4]
        simp only [polyglotlaw04_FrameBack.j0]
        rw [if_neg (by simp), FV.seal_ok (by omega) (by omega) (by omega) hb]
        simp only [Option.bind_some]
        rw [FV.open_frame (by omega) (by omega) (by omega) hb]
        simp only [Option.bind_some]
        rw [if_pos trivial, if_pos trivial, if_pos trivial, show ((strOfNums l).toList != (strOfNums l).toList) = false by simp]
        simp only [polyglotlaw04_FrameBack.j1]
        rw [if_neg (by simp)]
        have out2 : polyglotlaw04_FrameBack.j2 1 at_ y (Frame.frameL g l) true = some true := by
          simp only [polyglotlaw04_FrameBack.j2]
          rw [if_pos trivial, FV.awake]; rfl
        have fl := FV.frame_len g l
        by_cases a0 : at_ < 0
        · rw [if_pos a0]; exact out2
        · rw [if_neg a0]
          by_cases a1 : at_ ≥ ((Frame.frameL g l).length : Int)
          · rw [if_pos a1]; exact out2
          · rw [if_neg a1]
            by_cases y0 : y = 0
            · subst y0; exact out2
            · rw [show (y == 0) = false by simpa using y0]
              simp only [polyglotlaw04_FrameBack.j2]
              rw [if_neg (by simp), if_pos (by omega), if_pos (by omega)]
              obtain ⟨i, rfl⟩ := Int.eq_ofNat_of_zero_le (show 0 ≤ at_ by omega)
              have hi : i < (Frame.frameL g l).length := by omega
              simp only [Int.toNat_natCast, rd]
              rw [show (Frame.frameL g l).getD i 0 = (Frame.frameL g l)[i] by simp [hi]]
              have bad := FV.turned_bad (FV.frame_bytes g hb) (by omega) (FV.frame_sum g l) hi hy y0
              obtain ⟨x0, x1, _⟩ := FV.xor_u8 (Frame.frameL g l)[i] y
              obtain ⟨c, hc⟩ : ∃ c, c = (Frame.frameL g l).set i (Go.bits .xor .u8 (Frame.frameL g l)[i] y) := ⟨_, rfl⟩
              have cl : c.length = l.length + 8 := by rw [hc, List.length_set, fl]
              have cb : Frame.byteAll c := by
                rw [hc]; intro x hx
                rcases List.mem_or_eq_of_mem_set hx with h | h
                · exact FV.frame_bytes g hb x h
                · subst h; exact ⟨x0, x1⟩
              rw [← hc] at bad ⊢
              rw [FV.open_is (by omega) (by omega) cb]
              by_cases hh : Frame.Headed c
              · rw [if_pos hh, bad]
                rw [if_neg (by simp), if_neg (by simp), if_neg (by simp)]
                simp only [Option.bind_some]
                rw [if_neg (by decide), if_pos trivial, if_pos (by simp), FV.awake]
                rfl
              · rw [if_neg hh]
                simp only [Option.bind_some]
                rw [if_neg (by decide), if_pos trivial, if_pos (by simp), FV.awake]
                rfl

end Go.Proofs.YtdamjkfggmmmeabDoor.Pure
