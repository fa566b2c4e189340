/- Chapter 4: of any bytes up to 300 it is told which generation and which body are opened, or why none is; of more bytes it says nothing. -/
import Derived.Test.YtdamjkfggmmmeabDoorPFrx3
import Derived.Test.YtdamjkfggmmmeabDoorFV
namespace Go.Proofs.YtdamjkfggmmmeabDoor.Pure
open Go.RowKit Go.Proofs.YtdamjkfggmmmeabDoor.PFr Go.Proofs.YtdamjkfggmmmeabDoorW.PrintWords Go.Proofs.YtdamjkfggmmmeabDoorW.PrintLast

theorem FrameOpens : polyglotlaw04_FrameOpens.Pure := by
  intro l _ hw
  have hb := FV.wf_bytes hw
  refine ⟨2, ?_⟩
  unfold polyglotlaw04_FrameOpens.f
  by_cases h3 : (l.length : Int) > 300
  · rw [if_pos h3, FV.awake]; rfl
  · rw [if_neg h3]
    by_cases h8 : l.length < 8
    · rw [FV.open_short h8]
      simp only [Option.bind_some]
      rw [if_neg (by decide), if_pos trivial]
      simp only [polyglotlaw04_FrameOpens.j0]
      rw [if_neg (by simp), if_pos (by omega), if_pos trivial, FV.awake]
      rfl
    · rw [FV.open_is (by omega) (by omega) hb]
      have r0 : rd l 0 = Frame.at1 l 0 := rfl
      have r1 : rd l 1 = Frame.at1 l 1 := rfl
      have r2 : rd l 2 = Frame.at1 l 2 := rfl
      have r3 : rd l 3 = Frame.at1 l 3 := rfl
      have q1 := Frame.at1_range hb 1
      have q2 := Frame.at1_range hb 2
      have q3 := Frame.at1_range hb 3
      have w1 : wrap64 (Frame.at1 l 1) = Frame.at1 l 1 := by unfold wrap64; omega
      have w2 : wrap64 (wrap64 (wrap64 (Frame.at1 l 2) * 256) + wrap64 (Frame.at1 l 3)) = Frame.at1 l 2 * 256 + Frame.at1 l 3 := by unfold wrap64; omega
      have w3 : wrap64 ((l.length : Int) - 8) = (l.length : Int) - 8 := by unfold wrap64; omega
      have w4 : wrap64 ((l.length : Int) - 4) = (l.length : Int) - 4 := by unfold wrap64; omega
      -- the tests of the head
      have head : ∀ (a : Int) (m : List Int) (e : Int) (z : Bool), z = false → polyglotlaw04_FrameOpens.j0 2 l a m e z = polyglotlaw04_FrameOpens.j1 1 l a m e (!decide (Frame.Headed l)) := fun a m e z hz => by
        subst hz
        simp only [polyglotlaw04_FrameOpens.j0]
        rw [if_neg (by simp), if_neg (by omega), if_pos (by omega), r0, r1, r2, r3, w2, w3]
        by_cases x0 : Frame.at1 l 0 = 156
        · rw [if_pos x0, if_pos (by omega)]
          by_cases x1 : Frame.at1 l 1 < 1
          · rw [if_pos x1, show decide (Frame.Headed l) = false from decide_eq_false (by unfold Frame.Headed; omega)]; rfl
          · rw [if_neg x1]
            by_cases x2 : Frame.at1 l 1 > 3
            · rw [if_pos x2, show decide (Frame.Headed l) = false from decide_eq_false (by unfold Frame.Headed; omega)]; rfl
            · rw [if_neg x2, if_pos (by omega), if_pos (by omega)]
              congr 1
              by_cases x3 : Frame.at1 l 2 * 256 + Frame.at1 l 3 = (l.length : Int) - 8
              · rw [show decide (Frame.Headed l) = true from decide_eq_true (by unfold Frame.Headed; omega), x3]; simp
              · rw [show decide (Frame.Headed l) = false from decide_eq_false (by unfold Frame.Headed; omega)]; simpa using x3
        · rw [if_neg x0, show decide (Frame.Headed l) = false from decide_eq_false (by unfold Frame.Headed; omega)]; rfl
      by_cases hh : Frame.Headed l
      · rw [if_pos hh]
        have hh2 := hh
        obtain ⟨x0, x1, x2, x3⟩ := hh
        -- what is laid of the body
        have n4 : ((l.length : Int) - 4).toNat = l.length - 4 := by omega
        have hbd : (l.take (l.length - 4)).drop 4 = Frame.bodyOf l := by
          unfold Frame.bodyOf
          rw [List.drop_take]
          congr 1
        have bl : (Frame.bodyOf l).length = l.length - 8 := by unfold Frame.bodyOf; simp; omega
        have bb : Frame.byteAll (Frame.bodyOf l) := FV.byteAll_take (FV.byteAll_drop hb 4) _
        have four4 : l.take 4 = Frame.hdr (Frame.at1 l 1) (Frame.bodyOf l).length := by
          have i0 : Frame.at1 l 0 = l[0] := by simp [Frame.at1, show 0 < l.length by omega]
          have i1 : Frame.at1 l 1 = l[1] := by simp [Frame.at1, show 1 < l.length by omega]
          have i2 : Frame.at1 l 2 = l[2] := by simp [Frame.at1, show 2 < l.length by omega]
          have i3 : Frame.at1 l 3 = l[3] := by simp [Frame.at1, show 3 < l.length by omega]
          have e4 : l.take 4 = [l[0], l[1], l[2], l[3]] := by
            conv => lhs; rw [← List.drop_zero (l := l)]
            rw [List.drop_eq_getElem_cons (show 0 < l.length by omega), List.drop_eq_getElem_cons (show 1 < l.length by omega), List.drop_eq_getElem_cons (show 2 < l.length by omega), List.drop_eq_getElem_cons (show 3 < l.length by omega)]
            rfl
          rw [e4, ← i0, ← i1, ← i2, ← i3, bl, x0]
          unfold Frame.hdr
          congr 1
          congr 1
          · omega
          · congr 1
            · omega
            · congr 1
              omega
        have front : Frame.hdr (Frame.at1 l 1) (Frame.bodyOf l).length ++ Frame.bodyOf l = l.take (l.length - 4) := by
          rw [← four4, ← hbd]
          conv => rhs; rw [← List.take_append_drop 4 (l.take (l.length - 4))]
          rw [List.take_take, Nat.min_eq_left (by omega)]
        have laid : Frame.frameL (Frame.at1 l 1) (Frame.bodyOf l) = l.take (l.length - 4) ++ Frame.four (Crc.sumF (l.take (l.length - 4))) := by
          unfold Frame.frameL
          rw [front]
        have whole : l = l.take (l.length - 4) ++ l.drop (l.length - 4) := (List.take_append_drop _ _).symm
        have same : Frame.sumOk l = true ↔ Frame.frameL (Frame.at1 l 1) (Frame.bodyOf l) = l := by
          unfold Frame.sumOk
          rw [beq_iff_eq, laid]
          have ht : (l.drop (l.length - 4)).take 4 = l.drop (l.length - 4) := List.take_of_length_le (by simp; omega)
          rw [ht]
          constructor
          · intro h
            conv => rhs; rw [whole]
            congr 1
            exact FV.num_inj rfl (by simp; omega) (by rw [FV.num_four, h]) (FV.four_bytes _) (FV.byteAll_drop hb _)
          · intro h
            have h2 : Frame.four (Crc.sumF (l.take (l.length - 4))) = l.drop (l.length - 4) := by
              have h3 := h
              conv at h3 => rhs; rw [whole]
              exact List.append_cancel_left h3
            rw [← h2, FV.num_four]
        have j1is : ∀ (a : Int) (m : List Int) (e : Int), polyglotlaw04_FrameOpens.j1 1 l a m e false = if (strOfNums (Frame.frameL (Frame.at1 l 1) (Frame.bodyOf l))).toList = (strOfNums l).toList then (if e = 0 then (if a = Frame.at1 l 1 then (if (strOfNums m).toList = (strOfNums (Frame.bodyOf l)).toList then some true else some false) else some false) else some false) else (if e = 8 then some true else some false) := fun a m e => by
          simp only [polyglotlaw04_FrameOpens.j1]
          rw [if_neg (by simp), w4, if_pos (by omega), if_pos (by omega), if_pos (by omega), n4, hbd, r1, w1, FV.laid_ok _ (by rw [bl]; omega) bb, FV.awake]
          rfl
        by_cases hs : Frame.sumOk l = true
        · rw [if_pos hs, if_pos hs, if_pos hs]
          simp only [Option.bind_some]
          rw [if_pos trivial, head _ _ _ _ rfl, decide_eq_true hh2, Bool.not_true, j1is, if_pos (by rw [same.1 hs]), if_pos rfl, if_pos rfl, if_pos rfl]
        · rw [if_neg hs, if_neg hs, if_neg hs]
          simp only [Option.bind_some]
          rw [if_neg (by decide), if_pos trivial, head _ _ _ _ (by simp), decide_eq_true hh2, Bool.not_true, j1is, if_neg, if_pos rfl]
          intro h
          exact hs (same.2 (FV.str_inj (FV.frame_bytes _ bb) hb h))
      · rw [if_neg hh]
        simp only [Option.bind_some]
        rw [if_neg (by decide), if_pos trivial, head _ _ _ _ (by simp), decide_eq_false hh]
        simp only [polyglotlaw04_FrameOpens.j1]
        rw [if_pos (by simp), if_pos trivial, FV.awake]
        rfl

end Go.Proofs.YtdamjkfggmmmeabDoor.Pure
