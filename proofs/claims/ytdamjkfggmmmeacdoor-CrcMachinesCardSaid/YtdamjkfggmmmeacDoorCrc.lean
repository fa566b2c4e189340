/- What the sum (chapter 3) does to memory: nothing; it reads its table of sixteen numbers. -/
import Derived.Test.YtdamjkfggmmmeacDoorProg
import Derived.Test.YtdamjkfggmmmeacDoorWMore
import Derived.Test.YtdamjkfggmmmeacDoorCrcMath
import Derived.WalkKit
import Derived.Laws.BitsLemmas
import Derived.Lib.Hide
namespace Go.Proofs.YtdamjkfggmmmeacDoor.Crc
open Go.RowKit Go.Proofs.YtdamjkfggmmmeacDoorW.PrintWords Go.Proofs.YtdamjkfggmmmeacDoorW.PrintLast Go.Proofs.YtdamjkfggmmmeacDoorW.PrintMore
open CrcMath (takes run bits4 bits8 tab nib_run)
set_option linter.unusedVariables false
set_option linter.unusedSimpArgs false

theorem xor_nat (a b : Nat) (ha : a < 4294967296) (hb : b < 4294967296) : bits .xor .u32 (a : Int) (b : Int) = ((a ^^^ b : Nat) : Int) := by
  have hx : a ^^^ b < 2 ^ 32 := Nat.xor_lt_two_pow (n := 32) (by omega) (by omega)
  have hw : ∀ n : Int, 0 ≤ n → n < 4294967296 → IntKind.u32.wrap n = n := fun n h0 h1 => by rw [IntKind.wrap_u32]; omega
  have e : bits .xor .u32 (a : Int) (b : Int) = IntKind.u32.wrap (((BitVec.ofNat 32 a ^^^ BitVec.ofNat 32 b).toNat : Nat) : Int) := by
    show IntKind.u32.wrap _ = _
    rw [BitVec.ofInt_natCast, BitVec.ofInt_natCast]
    rfl
  rw [e, BitVec.toNat_xor, BitVec.toNat_ofNat, BitVec.toNat_ofNat, Nat.mod_eq_of_lt (by omega), Nat.mod_eq_of_lt (by omega)]
  exact hw _ (by omega) (by omega)
def tabI (i : Nat) : Int := (tab.getD i 0 : Nat)
theorem tab_lt : ∀ i, tab.getD i 0 < 4294967296 := fun i => by
  rcases Nat.lt_or_ge i 16 with h | h
  · have : ∀ j : Fin 16, tab.getD j.val 0 < 4294967296 := by decide
    exact this ⟨i, h⟩
  · rw [List.getD_eq_getElem?_getD, List.getElem?_eq_none (by simpa [tab] using h)]; decide
theorem nib_int (r : BitVec 32) (n : BitVec 4) : ((run r (bits4 n)).toNat : Int) = bits .xor .u32 ((r.toNat : Int) * 16 % 4294967296) (tabI (bits .xor .u32 ((r.toNat : Int) / 268435456) (n.toNat : Int)).toNat) := by
  have hr := r.isLt
  have hn := n.isLt
  have e1 : (r.toNat : Int) * 16 % 4294967296 = ((r.toNat * 16 % 4294967296 : Nat) : Int) := by omega
  have e2 : (r.toNat : Int) / 268435456 = ((r.toNat / 268435456 : Nat) : Int) := by omega
  have hi : (((r >>> 28).truncate 4) ^^^ n).toNat = (r.toNat / 268435456) ^^^ n.toNat := by
    rw [BitVec.toNat_xor]
    congr 1
    simp [BitVec.toNat_ushiftRight, Nat.shiftRight_eq_div_pow]
    omega
  rw [e1, e2, xor_nat (r.toNat / 268435456) n.toNat (by omega) (by omega), Int.toNat_natCast]
  unfold tabI
  have ht := tab_lt ((r.toNat / 268435456) ^^^ n.toNat)
  rw [xor_nat _ _ (by omega) ht, nib_run, BitVec.toNat_xor, hi, BitVec.toNat_shiftLeft, BitVec.toNat_ofNat, Nat.shiftLeft_eq]
  rw [Nat.mod_eq_of_lt (a := tab.getD _ 0) (b := 2 ^ 32) ht]
/-- The table lies in the variable's block. -/
class Laid (w : World) : Prop where
  lt : 0 < w.heap.size
  cell : ∀ i, i < 16 → w.cell? ⟨0, i, none⟩ = some (.int .u32 (tabI i))
theorem Laid.below {B : Nat} {w W : World} (h : Laid w) (hb : Below B w W) (hB : 0 < B) : Laid W :=
  ⟨Nat.lt_of_lt_of_le h.lt hb.size, fun i hi => (hb.cell (p := ⟨0, i, none⟩) hB).trans (h.cell i hi)⟩

/-- A byte's value. -/
def by8 (c : Int) : BitVec 8 := BitVec.ofInt 8 c
theorem by8_nat {c : Int} (h0 : 0 ≤ c) (h1 : c ≤ 255) : ((by8 c).toNat : Int) = c := by
  obtain ⟨n, rfl⟩ := Int.eq_ofNat_of_zero_le h0
  simp [by8, BitVec.ofInt_natCast]; omega
def takeF (r : BitVec 32) (l : List Int) : BitVec 32 := takes r (l.map by8)
theorem takeF_snoc (r : BitVec 32) (l : List Int) (c : Int) : takeF r (l ++ [c]) = run (takeF r l) (bits8 (by8 c)) := by simp [takeF, takes]
theorem byte_int (r : BitVec 32) (c : Int) (h0 : 0 ≤ c) (h1 : c ≤ 255) : ∃ m : BitVec 32, (m.toNat : Int) = bits .xor .u32 ((r.toNat : Int) * 16 % 4294967296) (tabI (bits .xor .u32 ((r.toNat : Int) / 268435456) (c / 16)).toNat) ∧
    ((run r (bits8 (by8 c))).toNat : Int) = bits .xor .u32 ((m.toNat : Int) * 16 % 4294967296) (tabI (bits .xor .u32 ((m.toNat : Int) / 268435456) (c % 16)).toNat) := by
  have hc := by8_nat h0 h1
  refine ⟨run r (bits4 ((by8 c >>> 4).truncate 4)), ?_, ?_⟩
  · rw [nib_int]
    congr 4
    simp [BitVec.toNat_ushiftRight, Nat.shiftRight_eq_div_pow]; omega
  · unfold bits8
    rw [CrcMath.run_append, nib_int]
    congr 4
    simp; omega
theorem idx_lt (a b : Int) (ha : 0 ≤ a) (ha1 : a < 16) (hb : 0 ≤ b) (hb1 : b < 16) : 0 ≤ bits .xor .u32 a b ∧ bits .xor .u32 a b < 16 := by
  obtain ⟨m, rfl⟩ := Int.eq_ofNat_of_zero_le ha
  obtain ⟨n, rfl⟩ := Int.eq_ofNat_of_zero_le hb
  rw [xor_nat m n (by omega) (by omega)]
  have := Nat.xor_lt_two_pow (x := m) (y := n) (n := 4) (by omega) (by omega)
  omega

set_option maxRecDepth 100000 in
set_option maxHeartbeats 4000000 in
theorem take_is (r : BitVec 32) (A : Option Addr) (l : List Int) (c : Nat) (w : World) (hL : Laid w) (hr : Kd.C (Kd.int .u8) w A l.length l) (hb : ∀ x ∈ l, 0 ≤ x ∧ x ≤ 255) :
    Calls Tryd.prog 16 #[.int .u32 (r.toNat : Int), .slice A l.length c] w fun e w' => e = .returned (.int .u32 ((takeF r l).toNat : Int)) ∧ w = w' := by
  have hm := hr.2.1
  have HL := Aside0.mk hL
  have HC := Aside0.mk hr
  have HB := Aside0.mk hb
  clear hL hr hb
  go_enter Tryd.func16, Tryd.ntmps16
  go_wp2
  go_loopg [0, 9] (l.length + 1) (fun kq v0 v9 w' => ∃ i : Nat, v0 = .int .u32 ((takeF r (l.take i)).toNat : Int) ∧ v9 = .int .i64 (i : Int) ∧ Aside0 (i ≤ l.length) ∧ Aside0 (kq + i = l.length + 1) ∧ w' = w)
  case atStart => exact ⟨0, rfl, rfl, ⟨by omega⟩, ⟨by omega⟩, rfl⟩
  case round =>
    obtain ⟨i, rfl, rfl, hi, hk, rfl⟩ := hrel
    rcases Nat.lt_or_ge i l.length with hlt | hge
    · obtain ⟨ad, cc, rfl, hcl, hK, hcell⟩ := Kd.C_get HC.out (0 : Int) (i : Int) (by omega) (by omega)
      obtain rfl : cc = [Value.int .u8 (l.getD (i : Int).toNat 0)] := hK
      have hx := hcell 0 _ rfl
      have hq : (l.getD (i : Int).toNat 0) = l[i] := by simp [hlt]
      rw [hq] at hx
      simp only [Int.toNat_natCast, Kd.int, Kd.scalar, Nat.mul_one, Nat.add_zero] at hx
      have d0 : decide ((i : Int) < (l.length : Int)) = true := decide_eq_true (by omega)
      obtain ⟨c0, c1⟩ := HB.out l[i] (List.getElem_mem hlt)
      obtain ⟨m, hm1, hm2⟩ := byte_int (takeF r (l.take i)) l[i] c0 c1
      have hsn : takeF r (l.take (i + 1)) = run (takeF r (l.take i)) (bits8 (by8 l[i])) := by
        rw [show l.take (i + 1) = l.take i ++ [l[i]] by simp [List.take_append_getElem], takeF_snoc]
      rw [← hsn] at hm2
      obtain ⟨R, hR⟩ : ∃ R, R = ((takeF r (l.take i)).toNat : Int) := ⟨_, rfl⟩
      obtain ⟨R2, hR2⟩ : ∃ R2, R2 = ((takeF r (l.take (i + 1))).toNat : Int) := ⟨_, rfl⟩
      have hR0 := (takeF r (l.take i)).isLt
      rw [← hR] at hm1
      rw [← hR2] at hm2
      obtain ⟨M, hM⟩ : ∃ M, M = (m.toNat : Int) := ⟨_, rfl⟩
      have hM0 := m.isLt
      rw [← hM] at hm1 hm2
      have hRb : 0 ≤ R ∧ R < 4294967296 := by omega
      have hMb : 0 ≤ M ∧ M < 4294967296 := by omega
      clear hR0 hM0 hM
      have H2 := Aside0.mk (And.intro hR2 hsn)
      clear hsn
      rw [← hR]
      have i1 := idx_lt (R / 268435456) (l[i] / 16) (by omega) (by omega) (by omega) (by omega)
      have i2 := idx_lt (M / 268435456) (l[i] % 16) (by omega) (by omega) (by omega) (by omega)
      obtain ⟨I1, hI1⟩ : ∃ I1 : Nat, bits .xor .u32 (R / 268435456) (l[i] / 16) = (I1 : Int) := ⟨_, (Int.toNat_of_nonneg i1.1).symm⟩
      obtain ⟨I2, hI2⟩ : ∃ I2 : Nat, bits .xor .u32 (M / 268435456) (l[i] % 16) = (I2 : Int) := ⟨_, (Int.toNat_of_nonneg i2.1).symm⟩
      rw [hI1] at hm1 i1
      rw [hI2] at hm2 i2
      simp only [Int.toNat_natCast] at hm1 hm2
      have t1 := HL.out.cell I1 (by omega)
      have t2 := HL.out.cell I2 (by omega)
      have j1 := hm1.symm
      have j2 := hm2.symm
      have b1 : (I1 : Int) < 16 := i1.2
      have b2 : (I2 : Int) < 16 := i2.2
      have HH := Aside0.mk hR
      clear hm1 hm2 i1 i2 hR hR2 hcell hcl hq
      obtain ⟨gk, rfl⟩ : ∃ m, gk = m + 1 := ⟨gk - 1, by have := hk.out; omega⟩
      go_wp2
      go_roundg gk
      case measure => omega
      case rel =>
        exact ⟨i + 1, by rw [← H2.out.1], by simp, ⟨by omega⟩, ⟨by have := hk.out; omega⟩, rfl⟩
    · have d0 : decide (i < l.length) = false := decide_eq_false (by omega)
      have hie : i = l.length := by have := hi.out; omega
      have htk : l.take i = l := by rw [hie, List.take_length]
      clear hge hie
      rw [htk]
      clear htk
      go_wp2
      go_ret
      exact ⟨rfl, rfl⟩

def ones : BitVec 32 := BitVec.allOnes 32
theorem ones_int : ((ones.toNat : Nat) : Int) = 4294967295 := by decide
/-- The sum of bytes. -/
def sumF (l : List Int) : Int := ((~~~ takeF ones l).toNat : Int)
theorem takeF_append (r : BitVec 32) (l m : List Int) : takeF r (l ++ m) = takeF (takeF r l) m := by simp [takeF, CrcMath.takes_append]
theorem not_int (r : BitVec 32) : bits .xor .u32 IntKind.u32.max (r.toNat : Int) = ((~~~r).toNat : Int) := by
  rw [show IntKind.u32.max = ((4294967295 : Nat) : Int) by decide, xor_nat _ _ (by omega) r.isLt]
  refine congrArg Nat.cast ?_
  rw [← BitVec.allOnes_xor, BitVec.toNat_xor]
  rfl
theorem ret_u32 {a b : Int} (h : a = b) : Ending.returned (.int .u32 a) = .returned (.int .u32 b) := by rw [h]
set_option maxRecDepth 100000 in
set_option maxHeartbeats 4000000 in
theorem of_is (A : Option Addr) (ps : List (List Int)) (c : Nat) (w : World) (hL : Laid w) (hr : Kd.C (Kd.slice 5 (Kd.int .u8)) w A ps.length ps) (hb : ∀ p ∈ ps, ∀ x ∈ p, 0 ≤ x ∧ x ≤ 255) :
    Calls Tryd.prog 10 #[.slice A ps.length c] w fun e w' => e = .returned (.int .u32 (sumF ps.flatten)) ∧ w = w' := by
  have hm := hr.2.1
  have HL := Aside0.mk hL
  have HC := Aside0.mk hr
  have HB := Aside0.mk hb
  clear hL hr hb
  go_enter Tryd.func10, Tryd.ntmps10
  go_wp2
  rw [← ones_int]
  go_loopg [3, 8] (ps.length + 1) (fun kq v3 v8 w' => ∃ i : Nat, v3 = .int .u32 ((takeF ones (ps.take i).flatten).toNat : Int) ∧ v8 = .int .i64 (i : Int) ∧ Aside0 (i ≤ ps.length) ∧ Aside0 (kq + i = ps.length + 1) ∧ w' = w)
  case atStart => exact ⟨0, rfl, rfl, ⟨by omega⟩, ⟨by omega⟩, rfl⟩
  case round =>
    obtain ⟨i, rfl, rfl, hi, hk, rfl⟩ := hrel
    rcases Nat.lt_or_ge i ps.length with hlt | hge
    · obtain ⟨ad, cc, rfl, hcl, hK, hcell⟩ := Kd.C_get HC.out ([] : List Int) (i : Int) (by omega) (by omega)
      have hq : (ps.getD (i : Int).toNat []) = ps[i] := by simp [hlt]
      rw [hq] at hK
      obtain ⟨A1, c1, rfl, hle, hR⟩ := hK
      have hx := hcell 0 _ rfl
      simp only [Int.toNat_natCast, Kd.slice, Nat.mul_one, Nat.add_zero] at hx
      have d0 : decide ((i : Int) < (ps.length : Int)) = true := decide_eq_true (by omega)
      have HT := Lib.hid (take_is (takeF ones (ps.take i).flatten) A1 ps[i] c1 wr HL.out hR (HB.out ps[i] (List.getElem_mem hlt)))
      have hsn : takeF (takeF ones (ps.take i).flatten) ps[i] = takeF ones (ps.take (i + 1)).flatten := by
        rw [← takeF_append, ← List.take_append_getElem hlt, List.flatten_append]; simp
      rw [hsn] at HT
      clear hcell hcl hq hR hsn
      obtain ⟨gk, rfl⟩ : ∃ m, gk = m + 1 := ⟨gk - 1, by have := hk.out; omega⟩
      go_wp2_with fail
      refine HT.out.mono ?_
      rintro e w' ⟨rfl, rfl⟩
      go_wp2
      go_roundg gk
      case measure => omega
      case rel =>
        exact ⟨i + 1, rfl, by simp, ⟨by omega⟩, ⟨by have := hk.out; omega⟩, rfl⟩
    · have d0 : decide (i < ps.length) = false := decide_eq_false (by omega)
      have hie : i = ps.length := by have := hi.out; omega
      have htk : ps.take i = ps := by rw [hie, List.take_length]
      clear hge hie
      rw [htk]
      clear htk
      go_wp2
      go_ret
      exact ⟨ret_u32 (not_int _), rfl⟩

theorem C_bytes {w : World} {g : Nat} {l : List Int} {t : TypeId} {fr : Nat × Nat} (h : w.heap[g]? = some (.cells (l.map (Value.int .u8)).toArray t fr)) (hl : l.length ≤ 9223372036854775807) : Kd.C (Kd.int .u8) w (some ⟨g, 0, none⟩) l.length l := by
  refine ⟨rfl, hl, fun _ => ⟨_, rfl, fun j p hj => ⟨[.int .u8 p], rfl, rfl, fun i u hu => ?_⟩⟩⟩
  have hi : i = 0 := by
    have := (List.getElem?_eq_some_iff.1 hu).1
    simp at this; omega
  subst hi
  have hu' : Value.int .u8 p = u := by simpa using hu
  subst hu'
  have hadd : (⟨g, 0, none⟩ : Addr).add (j * (Kd.int .u8).sz + 0) = ⟨g, j, none⟩ := by rw [add_plain]; simp [Kd.int, Kd.scalar]
  rw [hadd, World.cell?, h]
  simp [hj]
theorem C_one {w : World} {g : Nat} {A : Option Addr} {c : Nat} {l : List Int} {t : TypeId} {fr : Nat × Nat} (h : w.heap[g]? = some (.cells #[.slice A l.length c] t fr)) (hr : Kd.C (Kd.int .u8) w A l.length l) (hc : l.length ≤ c) : Kd.C (Kd.slice 5 (Kd.int .u8)) w (some ⟨g, 0, none⟩) [l].length [l] := by
  refine ⟨rfl, by simp, fun _ => ⟨_, rfl, fun j p hj => ?_⟩⟩
  have hj0 : j = 0 := by
    have := (List.getElem?_eq_some_iff.1 hj).1
    simp at this; omega
  subst hj0
  obtain rfl : l = p := by simpa using hj
  refine ⟨[.slice A l.length c], rfl, ⟨A, c, rfl, hc, hr⟩, fun i u hu => ?_⟩
  have hi : i = 0 := by
    have := (List.getElem?_eq_some_iff.1 hu).1
    simp at this; omega
  subst hi
  have hu' : Value.slice A l.length c = u := by simpa using hu
  subst hu'
  rw [Nat.zero_mul, Nat.zero_add, add_plain, World.cell?, h]
  rfl
/-- The sum of one row, behind the making of the row of rows. -/
theorem of_one (A : Option Addr) (c : Nat) (l : List Int) (W : World) (hL : Laid W) (hr : Kd.C (Kd.int .u8) W A l.length l) (hc : l.length ≤ c) (hb : ∀ x ∈ l, 0 ≤ x ∧ x ≤ 255) :
    Calls Tryd.prog 10 #[.slice (some ⟨W.heap.size, 0, none⟩) 1 1] (W.alloc (.cells #[.slice A l.length c] 27)) fun e w' => e = .returned (.int .u32 (sumF l)) ∧ W.alloc (.cells #[.slice A l.length c] 27) = w' := by
  have hb1 : Below W.heap.size W (W.alloc (.cells #[.slice A l.length c] 27)) := below_alloc (Below.refl _ _) _
  have h := of_is (some ⟨W.heap.size, 0, none⟩) [l] 1 (W.alloc (.cells #[.slice A l.length c] 27)) (hL.below hb1 hL.lt) (C_one (heap_alloc_new W _) (Kd.C_below hr hb1) hc) (fun p hp => by rw [List.mem_singleton.1 hp]; exact hb)
  rw [show [l].flatten = l by simp] at h
  exact h
/-- The same, the row of rows lying somewhere. -/
theorem of_at (gb : Nat) (A : Option Addr) (c n : Nat) (X : List Int) (s : Int) (W : World) {T : TypeId} {fr : Nat × Nat} (hblk : W.heap[gb]? = some (.cells #[.slice A n c] T fr)) (hn : X.length = n) (hs : sumF X = s) (hL : Laid W) (hC : Kd.C (Kd.int .u8) W A X.length X) (hc : n ≤ c) (hb : ∀ x ∈ X, 0 ≤ x ∧ x ≤ 255) :
    Calls Tryd.prog 10 #[.slice (some ⟨gb, 0, none⟩) 1 1] W fun e w' => e = .returned (.int .u32 s) ∧ W = w' := by
  subst hn
  have h := of_is (some ⟨gb, 0, none⟩) [X] 1 W hL (C_one hblk hC hc) (fun p hp => by rw [List.mem_singleton.1 hp]; exact hb)
  rw [show [X].flatten = X by simp, hs] at h
  exact h
/-- The table as a list; its block as a row that is read. -/
def tabL : List Int := tab.map fun n => ((n : Nat) : Int)
theorem tabL_at (i : Nat) (h : i < 16) : tabL[i]? = some (tabI i) := by
  have : ∀ j : Fin 16, tabL[j.val]? = some (tabI j.val) := by decide
  exact this ⟨i, h⟩
theorem Laid.of_C {w : World} (h : Kd.C (Kd.int .u32) w (some ⟨0, 0, none⟩) tabL.length tabL) : Laid w := by
  have hc : ∀ i, i < 16 → w.cell? ⟨0, i, none⟩ = some (.int .u32 (tabI i)) := fun i hi => by
    obtain ⟨ad, cc, he, hcl, hK, hcell⟩ := Kd.C_get h (0 : Int) (i : Int) (by omega) (by simp [tabL, tab]; omega)
    injection he with he
    subst he
    obtain rfl : cc = [Value.int .u32 (tabL.getD (i : Int).toNat 0)] := hK
    have hx := hcell 0 _ rfl
    rw [List.getD_eq_getElem?_getD, Int.toNat_natCast, tabL_at i hi] at hx
    simpa [Kd.int, Kd.scalar, add_plain] using hx
  exact ⟨World.block_lt_of_cell? w _ (hc 0 (by omega)), hc⟩
end Go.Proofs.YtdamjkfggmmmeacDoor.Crc
