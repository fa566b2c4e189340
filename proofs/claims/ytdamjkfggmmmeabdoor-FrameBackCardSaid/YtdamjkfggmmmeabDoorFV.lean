/- Plain facts on frames (chapter 4): what is sealed is opened; with one byte turned, or cut off, it is not. -/
import Derived.Test.YtdamjkfggmmmeabDoorPFrx1
namespace Go.Proofs.YtdamjkfggmmmeabDoor.FV
open Go.RowKit Go.Proofs.YtdamjkfggmmmeabDoor.PFr Go.Proofs.YtdamjkfggmmmeabDoorW.PrintWords
open _root_.Go.Proofs.YtdamjkfggmmmeabDoor.Frame (frameL hdr four byteAll at1 bodyOf sumOk Headed)
open _root_.Go.Proofs.YtdamjkfggmmmeabDoor.Octet (num)

theorem wf_u8 {n : Int} (h : (Lit.int .u8 n).wf = true) : 0 ≤ n ∧ n ≤ 255 := by
  simpa [Lit.wf, IntKind.min, IntKind.max, IntKind.bits, IntKind.signed] using h
theorem wf_bytes {l : List Int} (h : ∀ v ∈ l, (Lit.int .u8 v).wf = true) : byteAll l := fun v hv => wf_u8 (h v hv)
theorem bytesB {l : List Int} (h : byteAll l) : byteAllB l = true := by
  unfold byteAllB
  rw [List.all_eq_true]
  intro x hx
  simpa using h x hx
theorem awake : polyglotlaw04_awake.f = some true := by decide +kernel
/-- Bytes that make one string are the same. -/
theorem str_inj {a b : List Int} (ha : byteAll a) (hb : byteAll b) (h : (strOfNums a).toList = (strOfNums b).toList) : a = b := by
  rw [ByteArray.toList_eq, ByteArray.toList_eq, strOfNums_data, strOfNums_data] at h
  have key : ∀ l : List Int, byteAll l → (l.map fun n => UInt8.ofNat n.toNat).map (fun u => (u.toNat : Int)) = l := by
    intro l hl
    rw [List.map_map]
    conv => rhs; rw [← List.map_id l]
    refine List.map_congr_left fun x hx => ?_
    have := hl x hx
    simp [Function.comp]
    omega
  rw [← key a ha, ← key b hb, h]
theorem seal_range {g : Int} (l : List Int) (h : ¬ (1 ≤ g ∧ g ≤ 3)) : frame_Seal.f g l = some ([], 5) := by unfold frame_Seal.f; rw [if_neg h]
theorem seal_ok {g : Int} {l : List Int} (h1 : 1 ≤ g) (h3 : g ≤ 3) (hl : l.length ≤ 65499) (hb : byteAll l) : frame_Seal.f g l = some (frameL g l, 0) := by
  unfold frame_Seal.f
  rw [if_pos ⟨h1, h3⟩, if_pos hl, if_pos (bytesB hb)]
theorem laid_ok (g : Int) {l : List Int} (hl : l.length ≤ 1000000) (hb : byteAll l) : polyglotlaw04_laid.f g l = some (frameL g l) := by
  unfold polyglotlaw04_laid.f
  rw [if_pos hl, if_pos (bytesB hb)]
theorem four_bytes (l : List Int) : byteAll (four (Crc.sumF l)) := by
  have := Frame.sumF_range l
  intro x hx
  simp only [four, List.mem_cons, List.not_mem_nil, or_false] at hx
  omega
theorem num_four (l : List Int) : num (four (Crc.sumF l)) = Crc.sumF l := by
  have := Frame.sumF_range l
  simp [num, four]
  omega
theorem hdr_len (g n : Int) : (hdr g n).length = 4 := rfl
theorem frame_len (g : Int) (l : List Int) : (frameL g l).length = l.length + 8 := by
  simp [frameL, hdr, four]
theorem frame_bytes (g : Int) {l : List Int} (hb : byteAll l) : byteAll (frameL g l) := by
  intro x hx
  unfold frameL at hx
  rcases List.mem_append.1 hx with h | h
  · rcases List.mem_append.1 h with h | h
    · exact Frame.hdr_bytes _ _ x h
    · exact hb x h
  · exact four_bytes _ x h
theorem frame_front (g : Int) (l : List Int) : (frameL g l).take (l.length + 4) = hdr g l.length ++ l := by
  unfold frameL
  rw [List.take_append_of_le_length (by simp [hdr]), List.take_of_length_le (by simp [hdr])]
theorem frame_behind (g : Int) (l : List Int) : (frameL g l).drop (l.length + 4) = four (Crc.sumF (hdr g l.length ++ l)) := by
  unfold frameL
  rw [List.drop_append_of_le_length (by simp [hdr]), List.drop_of_length_le (by simp [hdr]), List.nil_append]
theorem frame_sum (g : Int) (l : List Int) : sumOk (frameL g l) = true := by
  unfold sumOk
  rw [frame_len, show l.length + 8 - 4 = l.length + 4 by omega, frame_behind, frame_front, List.take_of_length_le (by simp [four]), num_four]
  simp
theorem frame_body (g : Int) (l : List Int) : bodyOf (frameL g l) = l := by
  unfold bodyOf
  rw [frame_len, show l.length + 8 - 8 = l.length by omega]
  unfold frameL
  rw [List.append_assoc, show (4 : Nat) = (hdr g l.length).length from rfl, List.drop_left, List.take_left]
theorem at_front (g : Int) (l m : List Int) (n : Int) : at1 (hdr g n ++ l ++ m) 0 = 156 ∧ at1 (hdr g n ++ l ++ m) 1 = g % 256 ∧ at1 (hdr g n ++ l ++ m) 2 = n / 256 % 256 ∧ at1 (hdr g n ++ l ++ m) 3 = n % 256 := by
  refine ⟨?_, ?_, ?_, ?_⟩ <;> simp [at1, hdr]
theorem frame_head {g : Int} {l : List Int} (h1 : 1 ≤ g) (h3 : g ≤ 3) (hl : l.length ≤ 65499) : Headed (frameL g l) := by
  obtain ⟨a0, a1, a2, a3⟩ := at_front g l (four (Crc.sumF (hdr g l.length ++ l))) l.length
  unfold Headed
  rw [frame_len]
  unfold frameL
  rw [a0, a1, a2, a3]
  omega
/-- What is opened of bytes that are few enough. -/
theorem open_is {b : List Int} (h8 : 8 ≤ b.length) (hl : b.length ≤ 65507) (hb : byteAll b) : frame_Open.f b = if Headed b then some (if sumOk b = true then at1 b 1 else 0, if sumOk b = true then bodyOf b else [], if sumOk b = true then 0 else 8) else some (0, [], 4) := by
  unfold frame_Open.f
  rw [if_neg (by omega), if_neg (by omega), if_pos (bytesB hb)]
  unfold headedB
  by_cases h : Headed b
  · rw [if_pos h, if_pos (by simpa using h)]
  · rw [if_neg h, if_neg (by simpa using h)]
theorem open_short {b : List Int} (h : b.length < 8) : frame_Open.f b = some (0, [], 2) := by
  unfold frame_Open.f
  rw [if_neg (by omega), if_pos h]
theorem open_frame {g : Int} {l : List Int} (h1 : 1 ≤ g) (h3 : g ≤ 3) (hl : l.length ≤ 300) (hb : byteAll l) : frame_Open.f (frameL g l) = some (g, l, 0) := by
  rw [open_is (by rw [frame_len]; omega) (by rw [frame_len]; omega) (frame_bytes g hb), if_pos (frame_head h1 h3 (by omega))]
  rw [if_pos (frame_sum g l), if_pos (frame_sum g l), if_pos (frame_sum g l), frame_body]
  have := (at_front g l (four (Crc.sumF (hdr g l.length ++ l))) l.length).2.1
  unfold frameL
  rw [this]
  congr 1
  congr 1
  omega
theorem num4 {a b c d a' b' c' d' : Int} (h : num [a, b, c, d] = num [a', b', c', d']) (hb : byteAll [a, b, c, d]) (hb' : byteAll [a', b', c', d']) : a = a' ∧ b = b' ∧ c = c' ∧ d = d' := by
  have h1 := hb a (by simp)
  have h2 := hb b (by simp)
  have h3 := hb c (by simp)
  have h4 := hb d (by simp)
  have g1 := hb' a' (by simp)
  have g2 := hb' b' (by simp)
  have g3 := hb' c' (by simp)
  have g4 := hb' d' (by simp)
  simp [num] at h
  omega
theorem len4 {l : List Int} (h : l.length = 4) : ∃ a b c d, l = [a, b, c, d] := by
  match l, h with
  | [a, b, c, d], _ => exact ⟨a, b, c, d, rfl⟩
theorem num_inj {l m : List Int} (hl : l.length = 4) (hm : m.length = 4) (h : num l = num m) (hb : byteAll l) (hb' : byteAll m) : l = m := by
  obtain ⟨a, b, c, d, rfl⟩ := len4 hl
  obtain ⟨a', b', c', d', rfl⟩ := len4 hm
  obtain ⟨rfl, rfl, rfl, rfl⟩ := num4 h hb hb'
  rfl
theorem byteAll_take {l : List Int} (h : byteAll l) (n : Nat) : byteAll (l.take n) := fun x hx => h x (List.mem_of_mem_take hx)
theorem byteAll_drop {l : List Int} (h : byteAll l) (n : Nat) : byteAll (l.drop n) := fun x hx => h x (List.mem_of_mem_drop hx)
theorem xor_u8 (a b : Int) : 0 ≤ Go.bits .xor .u8 a b ∧ Go.bits .xor .u8 a b ≤ 255 ∧ Crc.by8 (Go.bits .xor .u8 a b) = Crc.by8 a ^^^ Crc.by8 b := by
  have e : Go.bits .xor .u8 a b = (((Crc.by8 a ^^^ Crc.by8 b).toNat : Nat) : Int) := by
    show IntKind.u8.wrap ((Crc.by8 a ^^^ Crc.by8 b).toNat : Int) = _
    have := (Crc.by8 a ^^^ Crc.by8 b).isLt
    rw [IntKind.wrap_u8]; omega
  rw [e]
  have := (Crc.by8 a ^^^ Crc.by8 b).isLt
  refine ⟨by omega, by omega, ?_⟩
  rw [Crc.by8, BitVec.ofInt_natCast]
  simp
theorem by8_ne {y : Int} (hy : 0 ≤ y ∧ y ≤ 255) (h0 : y ≠ 0) : Crc.by8 y ≠ 0#8 := by
  intro hz
  have := Crc.by8_nat hy.1 hy.2
  rw [hz] at this
  simp at this
  exact h0 this.symm
theorem sum_turned {l : List Int} {i : Nat} (hi : i < l.length) {y : Int} (hy : 0 ≤ y ∧ y ≤ 255) (h0 : y ≠ 0) : Crc.sumF (l.set i (Go.bits .xor .u8 l[i] y)) ≠ Crc.sumF l := by
  intro h
  unfold Crc.sumF at h
  have h1 : (~~~ Crc.takeF Crc.ones (l.set i (Go.bits .xor .u8 l[i] y))).toNat = (~~~ Crc.takeF Crc.ones l).toNat := by omega
  have he := BitVec.not_inj.1 (BitVec.eq_of_toNat_eq h1)
  have hset : l.set i (Go.bits .xor .u8 l[i] y) = l.take i ++ Go.bits .xor .u8 l[i] y :: l.drop (i + 1) := by
    rw [List.set_eq_take_append_cons_drop, if_pos hi]
  have hsplit : l = l.take i ++ l[i] :: l.drop (i + 1) := by simp
  rw [hset] at he
  conv at he => rhs; rw [hsplit]
  simp only [Crc.takeF, List.map_append, List.map_cons, (xor_u8 l[i] y).2.2] at he
  exact CrcMath.takes_turned _ _ _ _ _ (by8_ne hy h0) he
/-- One byte turned: the sum is wrong. -/
theorem turned_bad {b : List Int} (hb : byteAll b) (h4 : 4 ≤ b.length) (ok : sumOk b = true) {i : Nat} (hi : i < b.length) {y : Int} (hy : 0 ≤ y ∧ y ≤ 255) (h0 : y ≠ 0) : sumOk (b.set i (Go.bits .xor .u8 b[i] y)) = false := by
  obtain ⟨x0, x1, x2⟩ := xor_u8 b[i] y
  unfold sumOk at ok ⊢
  rw [List.length_set]
  have ok := eq_of_beq ok
  rw [beq_eq_false_iff_ne]
  by_cases hlt : i < b.length - 4
  · rw [List.drop_set_of_lt hlt, List.take_set]
    intro h
    rw [ok] at h
    have := sum_turned (l := b.take (b.length - 4)) (i := i) (by rw [List.length_take]; omega) hy h0
    rw [List.getElem_take] at this
    exact this h.symm
  · have ht : (b.set i (Go.bits .xor .u8 b[i] y)).take (b.length - 4) = b.take (b.length - 4) := by rw [List.take_set, List.set_eq_of_length_le (by rw [List.length_take]; omega)]
    rw [ht, ← ok]
    intro h
    have hl : ∀ m : List Int, m.length = b.length → ((m.drop (b.length - 4)).take 4).length = 4 := fun m hm => by simp [hm]; omega
    have e := num_inj (hl _ (by simp)) (hl b rfl) h (byteAll_take (byteAll_drop (fun x hx => by
      rcases List.mem_or_eq_of_mem_set hx with hx | hx
      · exact hb x hx
      · subst hx; exact ⟨x0, x1⟩) _) _) (byteAll_take (byteAll_drop hb _) _)
    have e2 := congrArg (fun m => m[i - (b.length - 4)]?) e
    have k : i - (b.length - 4) < 4 := by omega
    have k2 : b.length - 4 + (i - (b.length - 4)) = i := by omega
    simp only [List.getElem?_take_of_lt k, List.getElem?_drop, k2] at e2
    rw [List.getElem?_set_self hi, List.getElem?_eq_getElem hi] at e2
    injection e2 with e2
    have e3 := congrArg Crc.by8 e2
    rw [x2] at e3
    have : Crc.by8 y = 0#8 := by
      have e4 := congrArg (fun v => Crc.by8 b[i] ^^^ v) e3
      simpa [← BitVec.xor_assoc] using e4
    exact by8_ne hy h0 this
end Go.Proofs.YtdamjkfggmmmeabDoor.FV
