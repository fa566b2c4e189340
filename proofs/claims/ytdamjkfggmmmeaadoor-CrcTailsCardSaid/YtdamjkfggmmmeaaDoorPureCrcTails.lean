/- Chapter 3: any two texts of up to 300 bytes, each with its sum behind it, have one sum; of longer ones it says nothing. -/
import Derived.Test.YtdamjkfggmmmeaaDoorPCrcx3
import Derived.Test.YtdamjkfggmmmeaaDoorCV
namespace Go.Proofs.YtdamjkfggmmmeaaDoor.Pure
open Go.RowKit Go.Proofs.YtdamjkfggmmmeaaDoor.PCrc Go.Proofs.YtdamjkfggmmmeaaDoorW.PrintWords Go.Proofs.YtdamjkfggmmmeaaDoorW.PrintLast

/-- The sum's four bytes. -/
def four (r : BitVec 32) : List Int := [(r.toNat : Int) / 16777216 % 256, (r.toNat : Int) / 65536 % 256, (r.toNat : Int) / 256 % 256, (r.toNat : Int) % 256]
theorem four_bytes (r : BitVec 32) : ∀ x ∈ four r, 0 ≤ x ∧ x ≤ 255 := by
  intro x hx
  simp only [four, List.mem_cons, List.not_mem_nil, or_false] at hx
  omega
theorem by8_of (n : Nat) : Crc.by8 ((n : Int) % 256) = BitVec.ofNat 8 n := by
  rw [show (n : Int) % 256 = ((n % 256 : Nat) : Int) by omega, Crc.by8, BitVec.ofInt_natCast]
  apply BitVec.eq_of_toNat_eq
  simp
theorem four_by8 (r : BitVec 32) : (four r).map Crc.by8 = [((r >>> 24).truncate 8), ((r >>> 16).truncate 8), ((r >>> 8).truncate 8), (r.truncate 8)] := by
  have d : ∀ k : Nat, (r.toNat : Int) / (2 ^ k : Nat) = ((r.toNat / 2 ^ k : Nat) : Int) := fun k => by simp
  have t : ∀ k : Nat, BitVec.ofNat 8 (r.toNat / 2 ^ k) = (r >>> k).truncate 8 := fun k => by
    apply BitVec.eq_of_toNat_eq
    simp [BitVec.toNat_ushiftRight, Nat.shiftRight_eq_div_pow]
  have e : ∀ (k : Nat) (m : Int), ((2 ^ k : Nat) : Int) = m → Crc.by8 ((r.toNat : Int) / m % 256) = (r >>> k).truncate 8 := fun k m hm => by rw [← hm, d k, by8_of, t k]
  simp only [four, List.map_cons, List.map_nil]
  rw [e 24 16777216 (by decide), e 16 65536 (by decide), e 8 256 (by decide), by8_of]
  rfl
theorem tail_sum (l : List Int) : Crc.sumF (l ++ four (~~~ Crc.takeF Crc.ones l)) = ((~~~ CrcMath.run (BitVec.allOnes 32) CrcMath.zeros).toNat : Int) := by
  unfold Crc.sumF
  rw [Crc.takeF_append]
  conv => lhs; rw [Crc.takeF]
  rw [four_by8, CrcMath.takes_tail]
theorem tail_some (l : List Int) (hl : l.length ≤ 300) (hb : ∀ x ∈ l, 0 ≤ x ∧ x ≤ 255) : polyglotlaw03_tail.f l = some (l ++ four (~~~ Crc.takeF Crc.ones l)) := by
  unfold polyglotlaw03_tail.f
  rw [CV.of_some [l] (by simpa using hb)]
  simp only [Option.bind_some, List.nil_append, List.length_nil, List.flatten_cons, List.flatten_nil, List.append_nil, List.length_cons]
  rw [if_pos (by omega), if_pos (by omega)]
  rfl
theorem CrcTails : polyglotlaw03_CrcTails.Pure := by
  intro a b hla hba hlb hbb
  have hba : ∀ x ∈ a, 0 ≤ x ∧ x ≤ 255 := fun x hx => CV.wf_u8 (hba x hx)
  have hbb : ∀ x ∈ b, 0 ≤ x ∧ x ≤ 255 := fun x hx => CV.wf_u8 (hbb x hx)
  refine ⟨1, ?_⟩
  unfold polyglotlaw03_CrcTails.f
  by_cases h3 : (a.length : Int) > 300
  · rw [if_pos h3]; rfl
  · rw [if_neg h3]
    by_cases h4 : (b.length : Int) > 300
    · rw [decide_eq_true h4]; rfl
    · rw [decide_eq_false h4]
      simp only [polyglotlaw03_CrcTails.j0]
      rw [if_neg (by simp), tail_some a (by omega) hba, tail_some b (by omega) hbb]
      simp only [Option.bind_some]
      have ok : ∀ l : List Int, (∀ x ∈ l, 0 ≤ x ∧ x ≤ 255) → ∀ x ∈ l ++ four (~~~ Crc.takeF Crc.ones l), 0 ≤ x ∧ x ≤ 255 := fun l h x hx => by
        rcases List.mem_append.1 hx with h1 | h1
        · exact h x h1
        · exact four_bytes _ x h1
      rw [CV.of_some [a ++ four _] (by intro p hp; rw [List.mem_singleton.1 hp]; exact ok a hba), CV.of_some [b ++ four _] (by intro p hp; rw [List.mem_singleton.1 hp]; exact ok b hbb)]
      simp only [Option.bind_some, List.flatten_cons, List.flatten_nil, List.append_nil, tail_sum]
      rw [if_pos trivial]
      rfl
end Go.Proofs.YtdamjkfggmmmeaaDoor.Pure
