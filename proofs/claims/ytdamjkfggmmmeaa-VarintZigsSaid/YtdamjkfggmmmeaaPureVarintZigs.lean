/- VarintZigs: the zigzag of each number with a sign is what the statement says, and each number comes back from it. No condition beyond the statement's own. -/
import Derived.Test.YtdamjkfggmmmeaaPVarx1
import Derived.Lib.Zigzag
import Derived.Laws.BitsAllLaws
namespace Go.Proofs.Ytdamjkfggmmmeaa.VZ
open Go Go.RowKit
theorem xor_zero64 (x : Int) (h0 : 0 ≤ x) (h1 : x < 18446744073709551616) : bits .xor .u64 x 0 = x := by
  rw [u64_xor x 0 h0 h1 (by decide) (by decide)]; simp; omega
theorem xor_ones64 (x : Int) (h0 : 0 ≤ x) (h1 : x < 18446744073709551616) : bits .xor .u64 x 18446744073709551615 = 18446744073709551615 - x := by
  rw [u64_xor x _ h0 h1 (by decide) (by decide)]
  have := Lib.xor_ones64 x.toNat (by omega)
  rw [Nat.xor_comm] at this
  have e : (18446744073709551615 : Int).toNat = 2 ^ 64 - 1 := by decide
  rw [e, this]; omega
def zig (n : Int) : Int := if 0 ≤ n then 2 * n else -2 * n - 1
def zag (v : Int) : Int := if v % 2 = 0 then v / 2 else -(v / 2) - 1
theorem wrap_u64 (x : Int) : IntKind.u64.wrap x = x % 18446744073709551616 := IntKind.wrap_u64 x
theorem zig_eq (n : Int) (h0 : -9223372036854775808 ≤ n) (h1 : n ≤ 9223372036854775807) :
    bits .xor .u64 (IntKind.u64.wrap ((IntKind.u64.wrap n) * 2)) (IntKind.u64.wrap (n / 9223372036854775808)) = zig n := by
  unfold zig
  by_cases h : 0 ≤ n
  · rw [if_pos h]
    have e : IntKind.u64.wrap (n / 9223372036854775808) = 0 := by rw [wrap_u64]; omega
    have e2 : IntKind.u64.wrap ((IntKind.u64.wrap n) * 2) = 2 * n := by rw [wrap_u64, wrap_u64]; omega
    rw [e, e2, xor_zero64 _ (by omega) (by omega)]
  · rw [if_neg h]
    have e : IntKind.u64.wrap (n / 9223372036854775808) = 18446744073709551615 := by rw [wrap_u64]; omega
    have e2 : IntKind.u64.wrap ((IntKind.u64.wrap n) * 2) = 2 * n + 18446744073709551616 := by rw [wrap_u64, wrap_u64]; omega
    rw [e, e2, xor_ones64 _ (by omega) (by omega)]; omega
theorem i64_xor_zero (x : Int) (h0 : 0 ≤ x) (h1 : x < 9223372036854775808) : bits .xor .i64 x 0 = x := by
  obtain ⟨a, rfl⟩ := Int.eq_ofNat_of_zero_le h0
  show IntKind.i64.wrap ((BitVec.ofInt 64 (a : Int) ^^^ BitVec.ofInt 64 0).toNat : Int) = _
  have h2 : (BitVec.ofInt 64 (a : Int)).toNat = a := by
    rw [BitVec.ofInt_natCast, BitVec.toNat_ofNat]; exact Nat.mod_eq_of_lt (by omega)
  rw [BitVec.toNat_xor, h2]
  simp
  rw [IntKind.wrap_i64]; omega
theorem i64_xor_ones (x : Int) (h0 : 0 ≤ x) (h1 : x < 9223372036854775808) : bits .xor .i64 x (-1) = -x - 1 := by
  obtain ⟨a, rfl⟩ := Int.eq_ofNat_of_zero_le h0
  have := Lib.i64_not a (by omega)
  rw [← this]
  show IntKind.i64.wrap ((BitVec.ofInt 64 (a : Int) ^^^ BitVec.ofInt 64 (-1)).toNat : Int) = IntKind.i64.wrap ((BitVec.ofInt 64 (-1) ^^^ BitVec.ofInt 64 (a : Int)).toNat : Int)
  rw [BitVec.xor_comm]
theorem wrap64_in (x : Int) (h0 : -9223372036854775808 ≤ x) (h1 : x ≤ 9223372036854775807) : wrap64 x = x := by unfold wrap64; omega
theorem zag_eq (v : Int) (h0 : 0 ≤ v) (h1 : v < 18446744073709551616) :
    bits .xor .i64 (wrap64 (v / 2)) (wrap64 (-(wrap64 (bits .and .u64 v 1)))) = zag v := by
  rw [Lib.u64_and1 v h0 h1, wrap64_in (v / 2) (by omega) (by omega), wrap64_in (v % 2) (by omega) (by omega), wrap64_in (-(v % 2)) (by omega) (by omega)]
  unfold zag
  by_cases h : v % 2 = 0
  · rw [if_pos h, h]; exact i64_xor_zero _ (by omega) (by omega)
  · have : v % 2 = 1 := by omega
    rw [if_neg h, this]; exact i64_xor_ones _ (by omega) (by omega)
theorem zag_zig (n : Int) : zag (zig n) = n := by unfold zag zig; split <;> split <;> omega
theorem zig_zag (v : Int) (h : 0 ≤ v) : zig (zag v) = v := by unfold zag zig; split <;> split <;> omega
end Go.Proofs.Ytdamjkfggmmmeaa.VZ
namespace Go.Proofs.Ytdamjkfggmmmeaa.Pure
open Go.RowKit Go.Proofs.Ytdamjkfggmmmeaa.PVar Go.Proofs.YtdamjkfggmmmeaaW.PrintWords Go.Proofs.YtdamjkfggmmmeaaW.PrintLast
open Go.Proofs.Ytdamjkfggmmmeaa.VZ

theorem awake_k : polyglotlaw02_awake.f 20 = some true := by decide +kernel
theorem wf_i64 {n : Int} (h : (Lit.int .i64 n).wf = true) : -9223372036854775808 ≤ n ∧ n ≤ 9223372036854775807 := by
  simpa [Lit.wf, IntKind.min, IntKind.max, IntKind.bits, IntKind.signed] using h
theorem wf_u64 {n : Int} (h : (Lit.int .u64 n).wf = true) : 0 ≤ n ∧ n < 18446744073709551616 := by
  have : 0 ≤ n ∧ n ≤ 18446744073709551615 := by simpa [Lit.wf, IntKind.min, IntKind.max, IntKind.bits, IntKind.signed] using h
  omega
theorem VarintZigs : polyglotlaw02_VarintZigs.Pure := by
  intro n v hn hv
  obtain ⟨n0, n1⟩ := wf_i64 hn
  obtain ⟨v0, v1⟩ := wf_u64 hv
  refine ⟨21, ?_⟩
  have z0 : varint_Zig.f n = some (zig n) := congrArg some (zig_eq n n0 n1)
  have zb : 0 ≤ zig n ∧ zig n < 18446744073709551616 := by unfold zig; split <;> omega
  have z1 : varint_Zag.f (zig n) = some n := by
    have := congrArg some (zag_eq (zig n) zb.1 zb.2)
    rw [zag_zig] at this; exact this
  have z2 : varint_Zag.f v = some (zag v) := congrArg some (zag_eq v v0 v1)
  have vb : -9223372036854775808 ≤ zag v ∧ zag v ≤ 9223372036854775807 := by unfold zag; split <;> omega
  have z3 : varint_Zig.f (zag v) = some v := by
    have := congrArg some (zig_eq (zag v) vb.1 vb.2)
    rw [zig_zag v v0] at this; exact this
  unfold polyglotlaw02_VarintZigs.f
  rw [z0]; simp only [Option.bind_some]
  rw [z1]; simp only [Option.bind_some]
  rw [if_pos trivial, z2]; simp only [Option.bind_some]
  rw [z3]; simp only [Option.bind_some]
  simp only [polyglotlaw02_VarintZigs.j0]
  rw [if_neg (by simp), awake_k]
  simp only [Option.bind_some]
  by_cases h : n ≥ 0
  · rw [if_pos h, if_pos]
    rw [VZ.wrap_u64, VZ.wrap_u64]; unfold zig; rw [if_pos h]; omega
  · rw [if_neg h, if_pos]
    rw [wrap64_in (n + 1) (by omega) (by omega), wrap64_in (-(n + 1)) (by omega) (by omega)]
    simp only [VZ.wrap_u64]; unfold zig; rw [if_neg h]; omega
end Go.Proofs.Ytdamjkfggmmmeaa.Pure
