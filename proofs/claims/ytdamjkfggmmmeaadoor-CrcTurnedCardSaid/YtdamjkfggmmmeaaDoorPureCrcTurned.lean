/- Chapter 3: one byte that is turned, wherever it stands in up to 300 bytes, turns the program's sum; of more bytes, of no such place, and of a turn by 0 it says nothing. -/
import Derived.Test.YtdamjkfggmmmeaaDoorPCrcx3
import Derived.Test.YtdamjkfggmmmeaaDoorCV
namespace Go.Proofs.YtdamjkfggmmmeaaDoor.Pure
open Go.RowKit Go.Proofs.YtdamjkfggmmmeaaDoor.PCrc Go.Proofs.YtdamjkfggmmmeaaDoorW.PrintWords Go.Proofs.YtdamjkfggmmmeaaDoorW.PrintLast

theorem xor_u8 (a b : Int) : 0 ≤ Go.bits .xor .u8 a b ∧ Go.bits .xor .u8 a b ≤ 255 ∧ Crc.by8 (Go.bits .xor .u8 a b) = Crc.by8 a ^^^ Crc.by8 b := by
  have e : Go.bits .xor .u8 a b = (((Crc.by8 a ^^^ Crc.by8 b).toNat : Nat) : Int) := by
    show IntKind.u8.wrap ((Crc.by8 a ^^^ Crc.by8 b).toNat : Int) = _
    have := (Crc.by8 a ^^^ Crc.by8 b).isLt
    rw [IntKind.wrap_u8]; omega
  rw [e]
  have := (Crc.by8 a ^^^ Crc.by8 b).isLt
  refine ⟨by omega, by omega, ?_⟩
  rw [Crc.by8, BitVec.ofInt_natCast]
  simp

theorem CrcTurned : polyglotlaw03_CrcTurned.Pure := by
  intro l at_ by_ _ hb _ hy
  have hb : ∀ x ∈ l, 0 ≤ x ∧ x ≤ 255 := fun x hx => CV.wf_u8 (hb x hx)
  have hy := CV.wf_u8 hy
  refine ⟨1, ?_⟩
  unfold polyglotlaw03_CrcTurned.f
  by_cases h3 : (l.length : Int) > 300
  · rw [if_pos h3]; rfl
  · rw [if_neg h3]
    by_cases h0 : at_ < 0
    · rw [if_pos h0]; rfl
    · rw [if_neg h0]
      by_cases h1 : at_ ≥ (l.length : Int)
      · rw [if_pos h1]; rfl
      · rw [if_neg h1]
        by_cases h2 : by_ = 0
        · subst h2; rfl
        · rw [show (by_ == 0) = false by simpa using h2]
          simp only [polyglotlaw03_CrcTurned.j0]
          rw [if_neg (by simp)]
          simp only [Option.bind_some, List.nil_append, List.length_nil]
          rw [if_pos (by omega), if_pos (by omega), if_pos (by omega)]
          obtain ⟨i, rfl⟩ := Int.eq_ofNat_of_zero_le (show 0 ≤ at_ by omega)
          have hi : i < l.length := by omega
          simp only [Int.toNat_natCast, rd]
          have hr : l.getD i 0 = l[i] := by simp [hi]
          rw [hr]
          obtain ⟨x0, x1, x2⟩ := xor_u8 l[i] by_
          have hset : l.set i (Go.bits .xor .u8 l[i] by_) = l.take i ++ Go.bits .xor .u8 l[i] by_ :: l.drop (i + 1) := by
            rw [List.set_eq_take_append_cons_drop, if_pos hi]
          have hbs : ∀ x ∈ l.set i (Go.bits .xor .u8 l[i] by_), 0 ≤ x ∧ x ≤ 255 := fun x hx => by
            rcases List.mem_or_eq_of_mem_set hx with h | h
            · exact hb x h
            · subst h; exact ⟨x0, x1⟩
          rw [CV.of_some [_] (by simpa using hbs), CV.of_some [l] (by simpa using hb)]
          simp only [Option.bind_some]
          rw [if_neg]
          · rfl
          · intro he
            have he := CV.sum_eq he
            simp only [List.flatten_cons, List.flatten_nil, List.append_nil] at he
            have hsplit : l = l.take i ++ l[i] :: l.drop (i + 1) := by simp
            rw [hset] at he
            conv at he => rhs; rw [hsplit]
            simp only [Crc.takeF, List.map_append, List.map_cons, x2] at he
            refine CrcMath.takes_turned _ _ _ _ _ ?_ he
            intro hz
            have := Crc.by8_nat hy.1 hy.2
            rw [hz] at this
            simp at this
            exact h2 this.symm
end Go.Proofs.YtdamjkfggmmmeaaDoor.Pure
