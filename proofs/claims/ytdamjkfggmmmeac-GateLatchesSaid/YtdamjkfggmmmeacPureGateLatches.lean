/- GateLatches: a latch keeps the first number with which it was opened, and no other time counts. No condition beyond the statement's own. -/
import Derived.Test.YtdamjkfggmmmeacPGatex4
namespace Go.Proofs.Ytdamjkfggmmmeac.Pure
open Go.RowKit Go.Proofs.Ytdamjkfggmmmeac.PGate Go.Proofs.YtdamjkfggmmmeacW.PrintWords Go.Proofs.YtdamjkfggmmmeacW.PrintLast

theorem awake_k : polyglotlaw24_awake.f 20 = some true := by decide +kernel
theorem awake_ge (k : Nat) (h : 20 ≤ k) : polyglotlaw24_awake.f k = some true := at_rounds (polyglotlaw24_awake.mono) h awake_k
theorem gl_loop (l : List Int) (hl : l.length ≤ 40) (d : Nat) : ∀ (i k : Nat), i + d = l.length → 21 + d ≤ k →
    polyglotlaw24_GateLatches.l0 k l (i : Int) (if i = 0 then none else some (rd l 0)) = some true := by
  induction d with
  | zero =>
    intro i k hi hk
    obtain ⟨k, rfl⟩ : ∃ m, k = m + 1 := ⟨k - 1, by omega⟩
    simp only [polyglotlaw24_GateLatches.l0]
    rw [if_neg (by omega), awake_ge k (by omega)]; rfl
  | succ d ih =>
    intro i k hi hk
    obtain ⟨k, rfl⟩ : ∃ m, k = m + 1 := ⟨k - 1, by omega⟩
    have hw : wrap64 ((i : Int) + 1) = ((i + 1 : Nat) : Int) := by unfold wrap64; omega
    have h2 := ih (i + 1) k (by omega) (by omega)
    rw [if_neg (by omega)] at h2
    simp only [polyglotlaw24_GateLatches.l0]
    rw [if_pos (by omega), if_pos (by omega)]
    by_cases h0 : i = 0
    · subst h0
      simp only [gate_Latch_Open.f, gate_Latch_At.f, Option.bind_some]
      simp
      have hw0 : wrap64 1 = ((0 + 1 : Nat) : Int) := by unfold wrap64; omega
      exact ⟨by omega, by rw [hw0]; exact h2⟩
    · rw [if_neg h0]
      have hb : ((i : Int) == 0) = false := by simp; omega
      simp only [gate_Latch_Open.f, gate_Latch_At.f, Option.bind_some]
      simp [hb]
      exact ⟨by omega, by rw [hw]; exact h2⟩
theorem GateLatches : polyglotlaw24_GateLatches.Pure := by
  intro l _ _ _
  by_cases h : (l.length : Int) > 40
  · refine ⟨20, ?_⟩
    unfold polyglotlaw24_GateLatches.f
    rw [if_pos h, awake_k]; rfl
  · refine ⟨22 + l.length, ?_⟩
    have := gl_loop l (by omega) l.length 0 (21 + l.length) (by omega) (by omega)
    unfold polyglotlaw24_GateLatches.f
    rw [if_neg h]
    simp only [gate_NewLatch.f, gate_Latch_At.f, Option.bind_some]
    rw [if_pos (by rfl), show 22 + l.length = (21 + l.length) + 1 by omega]
    simp only [polyglotlaw24_GateLatches.j0]
    simpa using this
end Go.Proofs.Ytdamjkfggmmmeac.Pure
