/- Plain mathematics of the sum of chapter 3: the register is a vector of 32 bits; nothing of the program is in sight. -/
namespace Go.Proofs.YtdamjkfggmmmeacDoor.CrcMath
def poly : BitVec 32 := 0x04C11DB7#32
def step (r : BitVec 32) (b : Bool) : BitVec 32 := (r <<< 1) ^^^ (if (r.msb ^^ b) then poly else 0#32)
theorem if_xor (a b : Bool) : (if (a ^^ b) then poly else 0#32) = (if a then poly else 0#32) ^^^ (if b then poly else 0#32) := by
  cases a <;> cases b <;> decide
theorem step_xor (r s : BitVec 32) (b c : Bool) : step (r ^^^ s) (b ^^ c) = step r b ^^^ step s c := by
  unfold step
  rw [BitVec.msb_xor, BitVec.shiftLeft_xor_distrib]
  have : ((r.msb ^^ s.msb) ^^ (b ^^ c)) = ((r.msb ^^ b) ^^ (s.msb ^^ c)) := by
    cases r.msb <;> cases s.msb <;> cases b <;> cases c <;> rfl
  rw [this, if_xor]
  simp only [BitVec.xor_assoc]
  congr 1
  rw [← BitVec.xor_assoc, BitVec.xor_comm (s <<< 1), BitVec.xor_assoc]
theorem step_inj0 (r : BitVec 32) (h : step r false = 0#32) : r = 0#32 := by
  unfold step at h
  have e0 := congrArg (fun x : BitVec 32 => x.getLsbD 0) h
  have hm : (r.msb ^^ false) = false := by
    cases hx : (r.msb ^^ false)
    · rfl
    · rw [hx] at e0; simp [poly] at e0
  rw [hm] at h
  simp only [Bool.xor_false] at hm
  have h2 : r <<< 1 = 0#32 := by simpa using h
  have h3 : r.toNat * 2 % 2^32 = 0 := by
    have := congrArg BitVec.toNat h2
    simpa [BitVec.toNat_shiftLeft, Nat.shiftLeft_eq] using this
  have h4 : r.toNat < 2^31 := by
    have := BitVec.msb_eq_decide r
    rw [hm] at this
    simpa using this
  apply BitVec.eq_of_toNat_eq
  show r.toNat = 0
  omega
def run (r : BitVec 32) : List Bool → BitVec 32
  | [] => r
  | b :: l => run (step r b) l
theorem run_append (r : BitVec 32) (l m : List Bool) : run r (l ++ m) = run (run r l) m := by
  induction l generalizing r with
  | nil => rfl
  | cons b l ih => exact ih _
def xors (l m : List Bool) : List Bool := List.zipWith (· ^^ ·) l m
theorem run_xor (l m : List Bool) (h : l.length = m.length) (r s : BitVec 32) : run (r ^^^ s) (xors l m) = run r l ^^^ run s m := by
  induction l generalizing m r s with
  | nil => cases m with
    | nil => rfl
    | cons => cases h
  | cons b l ih => cases m with
    | nil => cases h
    | cons c m =>
      show run (step (r ^^^ s) (b ^^ c)) (xors l m) = _
      rw [step_xor]; exact ih m (by simpa using h) _ _
theorem run_inj (l : List Bool) (r s : BitVec 32) (h : run r l = run s l) : r = s := by
  induction l generalizing r s with
  | nil => exact h
  | cons b l ih =>
    have h1 := ih _ _ h
    have h2 : step (r ^^^ s) (b ^^ b) = 0#32 := by rw [step_xor, h1, BitVec.xor_self]
    rw [Bool.xor_self] at h2
    have := step_inj0 _ h2
    exact BitVec.xor_eq_zero_iff.1 this
/-! nibbles -/
def bits4 (n : BitVec 4) : List Bool := [n.getLsbD 3, n.getLsbD 2, n.getLsbD 1, n.getLsbD 0]
def tab : List Nat := [0, 79764919, 159529838, 222504665, 319059676, 398814059, 445009330, 507990021, 638119352, 583659535, 797628118, 726387553, 890018660, 835552979, 1015980042, 944750013]
theorem hi_run : ∀ (h n : BitVec 4), run ((h.zeroExtend 32) <<< 28) (bits4 n) = BitVec.ofNat 32 (tab.getD (h ^^^ n).toNat 0) := by decide +kernel
theorem step_low (r : BitVec 32) (h : r.msb = false) : step r false = r <<< 1 := by simp [step, h]
theorem lo_run (r : BitVec 32) (h : r.toNat < 2^28) : run r [false, false, false, false] = r <<< 4 := by
  have m : ∀ s : BitVec 32, s.toNat < 2^31 → s.msb = false := fun s hs => by rw [BitVec.msb_eq_decide]; simpa using hs
  have t : ∀ k, k ≤ 3 → (r <<< k).toNat < 2^31 := fun k hk => by
    rw [BitVec.toNat_shiftLeft, Nat.shiftLeft_eq]
    have : k = 0 ∨ k = 1 ∨ k = 2 ∨ k = 3 := by omega
    rcases this with rfl | rfl | rfl | rfl <;> omega
  simp only [run]
  rw [step_low r (m _ (by omega)), step_low _ (m _ (t 1 (by omega))), ← BitVec.shiftLeft_add, step_low _ (m _ (t 2 (by omega))), ← BitVec.shiftLeft_add, step_low _ (m _ (t 3 (by omega))), ← BitVec.shiftLeft_add]
theorem low_bit_fin : ∀ i : Fin 32, (268435455#32)[i.val] = decide (i.val < 28) := by decide
theorem low_bit (i : Nat) (hi : i < 32) : (268435455#32)[i] = decide (i < 28) := low_bit_fin ⟨i, hi⟩
theorem parts (r : BitVec 32) : r = (r &&& 268435455#32) ^^^ ((((r >>> 28).truncate 4).zeroExtend 32) <<< 28) := by
  apply BitVec.eq_of_getLsbD_eq
  intro i hi
  have hb := low_bit i hi
  by_cases h : i < 28
  · simp [h, hi, hb]
  · have h1 : i - 28 < 4 := by omega
    have h2 : 28 + (i - 28) = i := by omega
    simp [h, hi, h1, h2, hb]
theorem low_shift (r : BitVec 32) : (r &&& 268435455#32) <<< 4 = r <<< 4 := by
  apply BitVec.eq_of_getLsbD_eq
  intro i hi
  by_cases h : i < 4
  · simp [h]
  · have hb := low_bit (i - 4) (by omega)
    simp [h, hi, hb]
    omega
theorem low_lt (r : BitVec 32) : (r &&& 268435455#32).toNat < 2^28 := by
  rw [BitVec.toNat_and]
  exact Nat.lt_of_le_of_lt Nat.and_le_right (by decide)
theorem nib_run (r : BitVec 32) (n : BitVec 4) : run r (bits4 n) = (r <<< 4) ^^^ BitVec.ofNat 32 (tab.getD (((r >>> 28).truncate 4) ^^^ n).toNat 0) := by
  have e := parts r
  have l : bits4 n = xors [false, false, false, false] (bits4 n) := by simp [xors, bits4]
  have l2 : [false, false, false, false].length = (bits4 n).length := rfl
  conv => lhs; rw [e, l]
  rw [run_xor _ _ l2, hi_run, lo_run _ (low_lt r), low_shift]
/-! bytes -/
def bits8 (c : BitVec 8) : List Bool := bits4 ((c >>> 4).truncate 4) ++ bits4 (c.truncate 4)
theorem bits8_eq (c : BitVec 8) : bits8 c = [c.getLsbD 7, c.getLsbD 6, c.getLsbD 5, c.getLsbD 4, c.getLsbD 3, c.getLsbD 2, c.getLsbD 1, c.getLsbD 0] := by
  simp [bits8, bits4]
theorem bits8_xor (c d : BitVec 8) : bits8 (c ^^^ d) = xors (bits8 c) (bits8 d) := by simp [bits8_eq, xors]
theorem byte_zero : ∀ c : BitVec 8, run 0#32 (bits8 c) = 0#32 → c = 0#8 := by decide +kernel
/-- The register behind bytes. -/
def takes (r : BitVec 32) (l : List (BitVec 8)) : BitVec 32 := l.foldl (fun r c => run r (bits8 c)) r
theorem takes_run (l : List (BitVec 8)) : ∀ r, takes r l = run r (l.map bits8).flatten := by
  induction l with
  | nil => intro r; rfl
  | cons c l ih => intro r; show takes (run r (bits8 c)) l = _; rw [ih, List.map_cons, List.flatten_cons, run_append]
theorem takes_append (r : BitVec 32) (l m : List (BitVec 8)) : takes r (l ++ m) = takes (takes r l) m := List.foldl_append
theorem takes_inj (l : List (BitVec 8)) (r s : BitVec 32) (h : takes r l = takes s l) : r = s := by
  rw [takes_run, takes_run] at h; exact run_inj _ _ _ h
theorem byte_turned (r : BitVec 32) (c d : BitVec 8) (hd : d ≠ 0#8) : run r (bits8 (c ^^^ d)) ≠ run r (bits8 c) := by
  intro h
  have e := run_xor (bits8 c) (bits8 d) (by simp [bits8_eq]) r 0#32
  rw [BitVec.xor_zero, ← bits8_xor, h] at e
  have : run 0#32 (bits8 d) = 0#32 := by
    have e2 := congrArg (fun x => run r (bits8 c) ^^^ x) e
    simp only [← BitVec.xor_assoc, BitVec.xor_self, BitVec.zero_xor] at e2
    exact e2.symm
  exact hd (byte_zero d this)
/-- One byte that is turned turns the register. -/
theorem takes_turned (r : BitVec 32) (l m : List (BitVec 8)) (c d : BitVec 8) (hd : d ≠ 0#8) : takes r (l ++ (c ^^^ d) :: m) ≠ takes r (l ++ c :: m) := by
  rw [takes_append, takes_append]
  intro h
  exact byte_turned _ c d hd (takes_inj m _ _ h)
/-! tails -/
def top : Nat → BitVec 32 → List Bool
  | 0, _ => []
  | n + 1, x => x.msb :: top n (x <<< 1)
theorem top_length (n : Nat) : ∀ x, (top n x).length = n := by
  induction n with
  | zero => intro x; rfl
  | succ n ih => intro x; simp [top, ih]
theorem run_top (n : Nat) : ∀ x, run x (top n x) = x <<< n := by
  induction n with
  | zero => intro x; simp [top, run]
  | succ n ih =>
    intro x
    show run (step x x.msb) (top n (x <<< 1)) = _
    rw [show step x x.msb = x <<< 1 by simp [step], ih, ← BitVec.shiftLeft_add, Nat.add_comm]
theorem top_self (x : BitVec 32) : run x (top 32 x) = 0#32 := by rw [run_top]; simp
def zeros : List Bool := List.replicate 32 false
theorem xors_zeros (l : List Bool) : ∀ n, l.length = n → xors (List.replicate n false) l = l := by
  induction l with
  | nil => intro n h; subst h; rfl
  | cons b l ih => intro n h; subst h; simp only [List.length_cons, List.replicate_succ, xors, List.zipWith_cons_cons, Bool.false_xor]; congr 1; exact ih _ rfl
/-- A register that takes bits of its own is that of the sum of both behind none. -/
theorem run_own (r x : BitVec 32) : run r (top 32 x) = run (r ^^^ x) zeros := by
  have e := run_xor zeros (top 32 x) (by rw [top_length]; rfl) (r ^^^ x) x
  rw [top_self, BitVec.xor_zero, BitVec.xor_assoc, BitVec.xor_self, BitVec.xor_zero] at e
  rw [← e]; congr 1
  exact (xors_zeros _ 32 (top_length 32 x)).symm
theorem bytes_top (x : BitVec 32) : top 32 x = bits8 ((x >>> 24).truncate 8) ++ bits8 ((x >>> 16).truncate 8) ++ bits8 ((x >>> 8).truncate 8) ++ bits8 (x.truncate 8) := by
  simp [bits8_eq, top, BitVec.msb_eq_getLsbD_last]
theorem ones_fin : ∀ i : Fin 32, (4294967295#32)[i.val] = true := by decide
/-- What comes behind the register's own complement does not hang on the register. -/
theorem takes_tail (r : BitVec 32) : takes r [(((~~~r) >>> 24).truncate 8), (((~~~r) >>> 16).truncate 8), (((~~~r) >>> 8).truncate 8), ((~~~r).truncate 8)] = run (BitVec.allOnes 32) zeros := by
  have e : r ^^^ ~~~r = BitVec.allOnes 32 := by
    apply BitVec.eq_of_getLsbD_eq
    intro i hi
    simp [hi]
    exact ones_fin ⟨i, hi⟩
  rw [← e, ← run_own, bytes_top, takes_run]
  simp
end Go.Proofs.YtdamjkfggmmmeacDoor.CrcMath
