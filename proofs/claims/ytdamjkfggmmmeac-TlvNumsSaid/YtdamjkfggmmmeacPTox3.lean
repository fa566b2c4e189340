-- WRITTEN BY A PROGRAM OF THIS SESSION (a print of its own, with given functions). Not trusted: Lean checks it.
import Derived.Test.YtdamjkfggmmmeacPTox0
namespace Go.Proofs.Ytdamjkfggmmmeac.PTo
open Go.RowKit Go.Proofs.YtdamjkfggmmmeacW.PrintWords Go.Proofs.YtdamjkfggmmmeacW.PrintLast Go.Proofs.YtdamjkfggmmmeacW.PrintMore
attribute [local go_sem] max2_int min2_int max_two min_two max_three min_three max_four min_four   -- for this text's walks alone
set_option linter.unusedVariables false
set_option linter.unusedSimpArgs false

/-! ### tlv_Value: function 21: BY HAND -/
theorem value_step (l : List Int) (n : Int) : ∃ r s', Octet.stepF ⟨l, 0, false⟩ (Octet.numN n) = (r, s') ∧ (!s'.bad && decide (s'.b.length = s'.at_)) = decide (1 ≤ n ∧ n ≤ 7 ∧ (l.length : Int) = n) ∧ (∀ p, r = some p → ∀ c ∈ p, c ∈ l) ∧ ((1 ≤ n ∧ n ≤ 7 ∧ (l.length : Int) = n) → r.getD [] = l) := by
  unfold Octet.stepF
  rw [if_neg (by simp)]
  by_cases h : Octet.numN n < 0 ∨ Octet.numN n > (l.length : Int)
  · refine ⟨none, ⟨l, 0, true⟩, by rw [if_pos (by simpa using h)], ?_, by simp, fun hn => ?_⟩
    · have : ¬ (1 ≤ n ∧ n ≤ 7 ∧ (l.length : Int) = n) := fun hn => by
        have : Octet.numN n = n := by unfold Octet.numN; rw [if_neg (by omega)]
        omega
      simp [this]
    · exfalso
      have : Octet.numN n = n := by unfold Octet.numN; rw [if_neg (by omega)]
      omega
  · have hn : Octet.numN n = n ∧ 1 ≤ n ∧ n ≤ 7 := by
      unfold Octet.numN at h ⊢
      split at h <;> rename_i h2
      · exact absurd (Or.inl (by decide)) h
      · rw [if_neg h2]; omega
    rw [hn.1] at h ⊢
    refine ⟨some (l.take n.toNat), ⟨l, n.toNat, false⟩, by rw [if_neg (by simpa using h)]; simp, ?_, fun p hp c hc => ?_, fun hl => ?_⟩
    · rw [Bool.eq_iff_iff]; simp; omega
    · obtain rfl := Option.some.inj hp
      exact List.mem_of_mem_take hc
    · exact List.take_of_length_le (by omega)
def tlv_Value.f (a0_0 : Int) (l0_1 : List Int) (a1 : Int) : Option (Int × Bool) :=
  if l0_1.length ≤ 1000000 ∧ (l0_1.all fun c => decide (0 ≤ c ∧ c ≤ 255)) = true then (if 1 ≤ a1 ∧ a1 ≤ 7 ∧ (l0_1.length : Int) = a1 then some (Octet.num l0_1, true) else some (0, false)) else none
set_option maxRecDepth 100000 in
set_option maxHeartbeats 4000000 in
theorem value_in (a : Int) (A : Option Addr) (c : Nat) (l : List Int) (n v : Int) (b : Bool) (w : World) (hr : Kd.C (Kd.int .u8) w A l.length l) (hm : l.length ≤ 1000000) (hb : ∀ c ∈ l, 0 ≤ c ∧ c ≤ 255) (hbe : decide (1 ≤ n ∧ n ≤ 7 ∧ (l.length : Int) = n) = b) (hve : if b = true then Octet.num l = v else v = 0) :
    Calls Try.prog 21 #[.agg #[.int .i64 a, .slice A l.length c], .int .i64 n] w fun e w' => e = .returned (.tuple #[.int .i64 v, .bool b]) ∧ Below w.heap.size w w' := by
  obtain ⟨r, s', hs, hd, hp, hv⟩ := value_step l n
  have hnot : ∀ (x : Bool) (w : World), (Op.unary .not (.bool x)).run Try.prog w = .ok (.bool (!x)) w := fun _ _ => rfl
  have HRD := Lib.hid (Octet.read_new A l c _ (Kd.C_alloc hr (.cells #[.int .i64 a, .slice A l.length c] 28)) hm)
  have HB0 := Aside0.mk (below_alloc (Below.refl w.heap.size w) (.cells #[.int .i64 a, .slice A l.length c] 28))
  have HP := Aside0.mk (And.intro hp hv)
  have HM := Aside0.mk (And.intro hm hb)
  have HS := Aside0.mk hs
  rw [hbe] at hd
  have HD := Aside0.mk hd
  have HV := Aside0.mk hve
  have HE := Aside0.mk hbe
  clear hp hv hm hb hs hd hr hve hbe
  go_enter Try.func21, Try.ntmps21
  go_wp2_with fail
  refine HRD.out.mono ?_
  rintro e w1 ⟨g, ob, rfl, i1, i2, i3, i4, i5, i6⟩
  have hI1 := Aside0.mk (⟨i1, i2, Nat.ne_of_lt i5, Nat.zero_le _, HM.out.1⟩ : Octet.Is w1 g ob ⟨l, 0, false⟩)
  have hB1 := Aside0.mk (HB0.out.trans (Octet.below_le i6 (by simp)))
  have hg := Aside0.mk (show w.heap.size ≤ g by have := i3; simp at this; omega)
  clear i1 i2 i3 i4 i5 i6 HRD HB0
  go_wp2_with fail
  refine (Octet.num_all g ob ⟨l, 0, false⟩ n w1 hI1.out r s' HS.out (fun p hp c hc => HM.out.2 c (HP.out.1 p hp c hc))).mono ?_
  rintro e w2 ⟨rfl, j1, j2, j3⟩
  have hI2 := Aside0.mk j1
  have hB2 := Aside0.mk (hB1.out.trans (j3 _ hg.out))
  clear j1 j2 j3 hI1 hB1
  go_wp2_with fail
  refine (Octet.done_is g ob s' w2 hI2.out).mono ?_
  rintro e w3 ⟨rfl, m, rfl⟩
  have hB3 := Aside0.mk (pw_below_drewN hB2.out m)
  rw [HD.out]
  clear hI2 hB2
  cases b with
  | true =>
    have hv : Octet.num (r.getD []) = v := by rw [HP.out.2 (of_decide_eq_true HE.out)]; exact HV.out
    rw [hv]
    clear hv
    go_wp2
    go_ret2
    exact ⟨rfl, hB3.out⟩
  | false =>
    obtain rfl : v = 0 := HV.out
    go_wp2
    go_ret2
    exact ⟨rfl, hB3.out⟩
theorem tlv_Value.calls (a0_0 : Int) (A0_1 : Option Addr) (c0_1 : Nat) (l0_1 : List Int) (a1 : Int) (r1 : Int) (r2 : Bool) (w : World) (hr0_1 : Kd.C (Kd.int .u8) w A0_1 l0_1.length l0_1) (hc0_1 : l0_1.length ≤ c0_1) (h : tlv_Value.f a0_0 l0_1 a1 = some (r1, r2)) :
    Calls Try.prog 21 #[.agg #[.int .i64 a0_0, .slice A0_1 l0_1.length c0_1], .int .i64 a1] w fun e w' => e = .returned (.tuple #[.int .i64 r1, .bool r2]) ∧ Below w.heap.size w w' := by
  unfold tlv_Value.f at h
  split at h
  · rename_i hh
    have hby : ∀ c ∈ l0_1, 0 ≤ c ∧ c ≤ 255 := fun c hc => by simpa using List.all_eq_true.1 hh.2 c hc
    split at h
    · rename_i hn
      obtain ⟨rfl, rfl⟩ := Prod.mk.inj (Option.some.inj h)
      exact value_in a0_0 A0_1 c0_1 l0_1 a1 _ _ w hr0_1 hh.1 hby (decide_eq_true hn) rfl
    · rename_i hn
      obtain ⟨rfl, rfl⟩ := Prod.mk.inj (Option.some.inj h)
      exact value_in a0_0 A0_1 c0_1 l0_1 a1 _ _ w hr0_1 hh.1 hby (decide_eq_false hn) rfl
  · cases h


end Go.Proofs.Ytdamjkfggmmmeac.PTo
