-- WRITTEN BY A PROGRAM OF THIS SESSION (a print of its own, with given functions). Not trusted: Lean checks it.
import Derived.Test.YtdamjkfggmmmeaaDoorPCrcx0
namespace Go.Proofs.YtdamjkfggmmmeaaDoor.PCrc
open Go.RowKit Go.Proofs.YtdamjkfggmmmeaaDoorW.PrintWords Go.Proofs.YtdamjkfggmmmeaaDoorW.PrintLast Go.Proofs.YtdamjkfggmmmeaaDoorW.PrintMore
attribute [local go_sem] max2_int min2_int max_two min_two max_three min_three max_four min_four   -- for this text's walks alone
set_option linter.unusedVariables false
set_option linter.unusedSimpArgs false

/-! ### polyglotlaw03_awake: function 6: BY HAND -/
def polyglotlaw03_awake.f : Option Bool := some true
theorem polyglotlaw03_awake.calls (r : Bool) (w : World) (hrG : Kd.C (Kd.int .u32) w (some ⟨0, 0, none⟩) Crc.tabL.length Crc.tabL) (h : polyglotlaw03_awake.f = some r) :
    Calls Tryd.prog 6 #[] w fun e w' => e = .returned (.bool r) ∧ Below w.heap.size w w' := by
  obtain rfl := Option.some.inj h
  exact Crc.awake_is w (Crc.Laid.of_C hrG)


/-! ### crc_Of: function 7: BY HAND -/
def crc_Of.f (l0 : List (List Int)) : Option Int := if (l0.all fun p => p.all fun x => decide (0 ≤ x ∧ x ≤ 255)) = true then some (Crc.sumF l0.flatten) else none
theorem crc_Of.calls (A0 : Option Addr) (c0 : Nat) (l0 : List (List Int)) (r : Int) (w : World) (hr0 : Kd.C (Kd.slice 5 (Kd.int .u8)) w A0 l0.length l0) (hc0 : l0.length ≤ c0) (hrG : Kd.C (Kd.int .u32) w (some ⟨0, 0, none⟩) Crc.tabL.length Crc.tabL) (h : crc_Of.f l0 = some r) :
    Calls Tryd.prog 7 #[.slice A0 l0.length c0] w fun e w' => e = .returned (.int .u32 r) ∧ Below w.heap.size w w' := by
  unfold crc_Of.f at h
  split at h
  · rename_i hall
    obtain rfl := Option.some.inj h
    refine (Crc.of_is A0 l0 c0 w (Crc.Laid.of_C hrG) hr0 (fun p hp x hx => by simpa using List.all_eq_true.1 (List.all_eq_true.1 hall p hp) x hx)).mono ?_
    rintro e w' ⟨rfl, rfl⟩
    exact ⟨rfl, Below.refl _ _⟩
  · cases h


/-! ### polyglotref03_Sum: function 8: BY HAND -/
def polyglotref03_Sum.f (l0 : List Int) : Option Int := if (l0.all fun x => decide (0 ≤ x ∧ x ≤ 255)) = true then some (Crc.sumF l0) else none
theorem polyglotref03_Sum.calls (A0 : Option Addr) (c0 : Nat) (l0 : List Int) (r : Int) (w : World) (hr0 : Kd.C (Kd.int .u8) w A0 l0.length l0) (hc0 : l0.length ≤ c0) (h : polyglotref03_Sum.f l0 = some r) :
    Calls Tryd.prog 8 #[.slice A0 l0.length c0] w fun e w' => e = .returned (.int .u32 r) ∧ Below w.heap.size w w' := by
  unfold polyglotref03_Sum.f at h
  split at h
  · rename_i hall
    obtain rfl := Option.some.inj h
    refine (Crc.sum_is A0 l0 c0 w hr0 (fun x hx => by simpa using List.all_eq_true.1 hall x hx)).mono ?_
    rintro e w' ⟨rfl, rfl⟩
    exact ⟨rfl, Below.refl _ _⟩
  · cases h


end Go.Proofs.YtdamjkfggmmmeaaDoor.PCrc
