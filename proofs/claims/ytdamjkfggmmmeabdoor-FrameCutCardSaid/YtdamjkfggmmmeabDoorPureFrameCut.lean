/- Chapter 4: a frame of a body of up to 300 bytes that is cut off, or has up to 300 bytes behind it, is not opened; of others it says nothing. -/
import Derived.Test.YtdamjkfggmmmeabDoorPFrx5
import Derived.Test.YtdamjkfggmmmeabDoorFV
namespace Go.Proofs.YtdamjkfggmmmeabDoor.Pure
open Go.RowKit Go.Proofs.YtdamjkfggmmmeabDoor.PFr Go.Proofs.YtdamjkfggmmmeabDoorW.PrintWords Go.Proofs.YtdamjkfggmmmeabDoorW.PrintLast

theorem FrameCut : polyglotlaw04_FrameCut.Pure := by
  intro g l at_ m _ _ hw _ _ hmw
  have hb := FV.wf_bytes hw
  have hm := FV.wf_bytes hmw
  refine ⟨2, ?_⟩
  have out : ∀ k : Nat, polyglotlaw04_FrameCut.j0 (k + 1) g l at_ m true = some true := fun k => by
    simp only [polyglotlaw04_FrameCut.j0]
    rw [if_pos trivial, FV.awake]; rfl
  unfold polyglotlaw04_FrameCut.f
  by_cases h3 : (l.length : Int) > 300
  · rw [if_pos h3]; exact out 1
  · rw [if_neg h3]
    by_cases h5 : (m.length : Int) > 300
    · rw [if_pos h5]; exact out 1
    · rw [if_neg h5]
      by_cases h6 : (m.length : Int) < 1
      · rw [if_pos h6]; exact out 1
      · rw [if_neg h6]
        by_cases h1 : g < 1
        · rw [if_pos h1]; exact out 1
        · rw [if_neg h1]
          by_cases h4 : g > 3
          · rw [decide_eq_true h4]; exact out 1
          · rw [decide_eq_false h4]
            have fl := FV.frame_len g l
            have fb := FV.frame_bytes g hb
            have form : ∀ c : List Int, (∃ d, c = Frame.hdr g l.length ++ d) → Frame.byteAll c → 8 ≤ c.length → c.length ≤ 65507 → c.length ≠ l.length + 8 → frame_Open.f c = some (0, [], 4) := fun c hd cb c8 cl cn => by
              obtain ⟨d, hd⟩ := hd
              rw [FV.open_is c8 cl cb, if_neg]
              rintro ⟨_, _, _, q⟩
              obtain ⟨_, _, a2, a3⟩ := FV.at_front g [] d (l.length : Int)
              rw [List.append_nil, ← hd] at a2 a3
              rw [a2, a3] at q
              omega
            simp only [polyglotlaw04_FrameCut.j0]
            rw [if_neg (by simp), FV.seal_ok (by omega) (by omega) (by omega) hb]
            simp only [Option.bind_some]
            rw [if_pos trivial]
            simp only [List.length_nil, List.nil_append]
            rw [if_pos (by omega)]
            rw [if_pos (by omega)]
            rw [form (Frame.frameL g l ++ m) ⟨l ++ Frame.four (Crc.sumF (Frame.hdr g l.length ++ l)) ++ m, by unfold Frame.frameL; simp⟩ (fun x hx => by
              rcases List.mem_append.1 hx with h | h
              · exact fb x h
              · exact hm x h) (by rw [List.length_append]; omega) (by rw [List.length_append]; omega) (by rw [List.length_append]; omega)]
            simp only [Option.bind_some]
            rw [if_pos trivial]
            have out2 : polyglotlaw04_FrameCut.j1 1 at_ (Frame.frameL g l) true = some true := by
              simp only [polyglotlaw04_FrameCut.j1]
              rw [if_pos trivial, FV.awake]; rfl
            by_cases a0 : at_ < 0
            · rw [if_pos a0]; exact out2
            · rw [if_neg a0]
              by_cases a1 : at_ ≥ ((Frame.frameL g l).length : Int)
              · rw [decide_eq_true a1]; exact out2
              · rw [decide_eq_false a1]
                simp only [polyglotlaw04_FrameCut.j1]
                rw [if_neg (by simp), if_pos (by omega), if_pos (by omega)]
                obtain ⟨i, rfl⟩ := Int.eq_ofNat_of_zero_le (show 0 ≤ at_ by omega)
                simp only [Int.toNat_natCast]
                have tl : ((Frame.frameL g l).take i).length = i := by rw [List.length_take]; omega
                by_cases i8 : i < 8
                · rw [FV.open_short (by omega)]
                  simp only [Option.bind_some]
                  rw [if_neg (by omega), if_pos (by omega), if_pos trivial, FV.awake]
                  rfl
                · rw [form ((Frame.frameL g l).take i) ⟨(l ++ Frame.four (Crc.sumF (Frame.hdr g l.length ++ l))).take (i - 4), by
                    unfold Frame.frameL
                    rw [List.append_assoc, List.take_append, List.take_of_length_le (by rw [FV.hdr_len]; omega), FV.hdr_len]⟩ (FV.byteAll_take fb i) (by omega) (by omega) (by omega)]
                  simp only [Option.bind_some]
                  rw [if_pos (by omega), if_pos trivial, FV.awake]
                  rfl

end Go.Proofs.YtdamjkfggmmmeabDoor.Pure
