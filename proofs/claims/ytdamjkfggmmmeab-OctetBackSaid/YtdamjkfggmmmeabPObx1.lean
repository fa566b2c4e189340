-- WRITTEN BY A PROGRAM OF THIS SESSION (a print of its own, with given functions). Not trusted: Lean checks it.
import Derived.Test.YtdamjkfggmmmeabPObx0
namespace Go.Proofs.Ytdamjkfggmmmeab.POb
open Go.RowKit Go.Proofs.YtdamjkfggmmmeabW.PrintWords Go.Proofs.YtdamjkfggmmmeabW.PrintLast Go.Proofs.YtdamjkfggmmmeabW.PrintMore
attribute [local go_sem] max2_int min2_int max_two min_two max_three min_three max_four min_four   -- for this text's walks alone
set_option linter.unusedVariables false
set_option linter.unusedSimpArgs false

/-! ### polyglotlaw01_OctetBack: function 3: BY HAND -/
def polyglotlaw01_OctetBack.f (l0 : List Int) (a1 : Int) (a2 : Int) : Option Bool := if l0.all (fun c => decide (0 ≤ c ∧ c ≤ 255)) = true then some true else none
theorem polyglotlaw01_OctetBack.calls (A0 : Option Addr) (c0 : Nat) (l0 : List Int) (a1 a2 : Int) (r : Bool) (w : World) (hr0 : Kd.C (Kd.int .u8) w A0 l0.length l0) (hc0 : l0.length ≤ c0) (h : polyglotlaw01_OctetBack.f l0 a1 a2 = some r) :
    Calls Try.prog 3 #[.slice A0 l0.length c0, .int .i64 a1, .int .i64 a2] w fun e w' => e = .returned (.bool r) ∧ Below w.heap.size w w' := by
  unfold polyglotlaw01_OctetBack.f at h
  split at h
  · rename_i hb
    obtain rfl := Option.some.inj h
    exact OBack.back_all A0 l0 c0 a1 a2 w hr0 (fun x hx => by simpa using List.all_eq_true.1 hb x hx)
  · cases h


/-- THE ONE PURE STATEMENT of polyglotlaw01_OctetBack: yours. -/
def polyglotlaw01_OctetBack.Pure : Prop := ∀ (l0 : List Int) (a1 : Int) (a2 : Int), l0.length ≤ maxLen → (∀ v ∈ l0, (Lit.int .u8 v).wf = true) → (Lit.int .i64 a1).wf = true → (Lit.int .i64 a2).wf = true → polyglotlaw01_OctetBack.f l0 a1 a2 = some true

end Go.Proofs.Ytdamjkfggmmmeab.POb
