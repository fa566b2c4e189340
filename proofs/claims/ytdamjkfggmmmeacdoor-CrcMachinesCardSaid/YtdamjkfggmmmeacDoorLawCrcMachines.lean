-- WRITTEN BY A PROGRAM OF THIS SESSION (a print of its own, with given functions). Not trusted: Lean checks it.
import Derived.Test.YtdamjkfggmmmeacDoorRows
import Derived.Test.YtdamjkfggmmmeacDoorPMax1
import Derived.Test.YtdamjkfggmmmeacDoorPureCrcMachines
import Derived.Test.YtdamjkfggmmmeacDoorRead
import Derived.Test.YtdamjkfggmmmeacDoorLaid
import Derived.Test.YtdamjkfggmmmeacDoorTie
import Derived.Test.YtdamjkfggmmmeacDoorCards
import Derived.SevenTiedAt
import Derived.WalkKit
import Derived.ProofKit
import Derived.OpenShut
import Derived.ShutString
import Derived.ChangeOld
import Derived.Below
import Derived.SizedLaws
import Derived.Lib.SmallJoins
namespace Go.Proofs.YtdamjkfggmmmeacDoor.crcMachines
open Go.ChangeShapes Go.WideShapes Go.ChangeAt Go.RowKit Go.Proofs.YtdamjkfggmmmeacDoor.PMa Go.Proofs.YtdamjkfggmmmeacDoorW.PrintWords Go.Proofs.YtdamjkfggmmmeacDoorW.PrintLast
set_option linter.unusedVariables false
theorem own : ownKnob Tryd.prog.godebug = none := by kernel_rfl
theorem laidOut : laidOutB Tryd.prog = true := by kernel_rfl
set_option maxRecDepth 100000 in
theorem lifted (os : Os) (started : os.Started) (H : Type) (enc : TypeId × Value → H) :
    ReturnsInHanded {} Tryd.checked os 3 .any (fun w args => (Rows.crcMachinesSpec.pre enc Tryd.prog Tryd.f3 [] false w args ∧ laidMetH Tryd.prog [("polyglot/crc.halves", Rows.laid_polyglot_crc_halves)] w) ∧ sizedMet enc Tryd.prog Tryd.f3 (OpenSpec.ofChange Rows.crcMachinesSpec) false w args) (Rows.crcMachinesSpec.post enc Tryd.prog Tryd.f3 false true false false) := by
  refine returnsInHanded_of_change_and (C := Tryd.checked) (X := fun w _ => laidMetH Tryd.prog [("polyglot/crc.halves", Rows.laid_polyglot_crc_halves)] w) (fun _ _ _ hh h => h.of_heap hh) own started (by kernel_rfl) Tryd.func3
    (ChangeSpec.witness_shaped (enc := enc) (C := Tryd.checked) (os := os) (X := fun w _ => laidMetH Tryd.prog [("polyglot/crc.halves", Rows.laid_polyglot_crc_halves)] w) false (World.doorLaid Tryd.prog 14 os) #[.slice none 0 0] 8 rfl (World.shaped_of_RefB (by kernel_rfl) (by kernel_rfl)) (by kernel_rfl) (by kernel_rfl) (by kernel_rfl) (Crc.door_met os _)) ?_
  intro W base args ds gs before hval0 hW hcnd hsz0 hL _
  have hval : ∀ (j : Nat) t v, Tryd.f3.params[j]? = some t → args[j]? = some v → Value.okWide Tryd.prog W .any base t v := hval0
  have hW' := hW
  obtain ⟨p, q, hA0, hV, rfl, hfz, hnd⟩ := hW
  have hA : DataW.TrodAll enc Tryd.prog W 0 (fun _ => true) true Tryd.f3.params.toList args.toList ds p := hA0
  rw [Tryd.params3] at hA hval
  obtain ⟨v0, vs0, d0, ds0, p0, q0, hargs, rfl, rfl, h0, r0⟩ := trodAll_cons hA
  obtain ⟨rfl, rfl, rfl⟩ := trodAll_nil r0
  obtain rfl : args = #[v0] := by cases args; simp_all
  obtain ⟨rfl, rfl⟩ := trodVars_none hV
  obtain ⟨a0, len0, cap0, rfl⟩ := okWide_slice Tryd.underlying22 (hval 0 22 v0 rfl rfl)
  have k0 := h0
  have lt0 : ∀ x ∈ p0, x.block < W.heap.size := by obtain ⟨m, hm⟩ := k0; exact DataW.trod_lt m _ _ _ hm
  obtain ⟨l0, rfl, hr0, hc0, hm0, hg0⟩ := Read.arg_row Tryd.underlying22 (Read.FT.slice Tryd.underlying27 (by kernel_rfl) (Read.FT.int Tryd.underlying5 (by kernel_rfl))) h0
  clear hA0 hval0 hsz0
  have hp := Pure.CrcMachines l0 hm0 hg0
  refine (PMa.polyglotlaw03_CrcMachines.calls _ _ l0 true W hr0 hc0 (Crc.laid_C hL) hp).mono fun e W' hpost => ?_
  obtain ⟨he, bel⟩ := hpost
  subst he
  exact ⟨_, rfl, _, _, _, [], _, [], hW', trodAll_mk1 (shut_bool Tryd.underlying4 _), (trodAll_cons_mk (Below.trod laidOut (by kernel_rfl) (of_decide_eq_true (by kernel_rfl)) k0 bel lt0) trodAll_mk0), rfl, bel.frame _, fun h => by cases h⟩
theorem over : Rows.crcMachinesRow.holds Tryd.pinned (OpenSpec.ofChange Rows.crcMachinesSpec) :=
  OpenClaim.holds_of_wide 3 Tryd.f3 rfl rfl rfl rfl rfl rfl rfl ⟨rfl, rfl, rfl, rfl, rfl⟩ rfl rfl rfl rfl rfl (by kernel_rfl) Tryd.func3 (by kernel_rfl)
    (of_decide_eq_true (by kernel_rfl)) (by unfold Func.isWrapper; first | (rw [if_pos (by decide +kernel)]; kernel_rfl) | (rw [if_neg (by decide +kernel)]; exact ⟨rfl, rfl⟩))
    (fun os started H enc _ => lifted os started H enc)
theorem card : Rows.CrcMachinesCardSaid :=
  Claim7.holds_tied_plain_at .later [] [.data] true (true, "b017e487a9a53e2688530e0f2bd2f31ec8f50777654fb8834a663a6f02df25e4") false
    over (fun _ h => by cases h) (by kernel_rfl) (fun _ h => by cases h) crcMachines_row_tie rfl ⟨rfl, rfl⟩ (by kernel_rfl) rfl
    (fun f fn hf hfn => by
      obtain rfl : f = 3 := Option.some.inj ((show Tryd.prog.funcNamed "polyglot/polyglotlaw03.CrcMachines" = some 3 by kernel_rfl).symm.trans hf) |>.symm
      obtain rfl : fn = Tryd.f3 := (Option.some.inj (Tryd.func3.symm.trans hfn)).symm
      exact ⟨by kernel_rfl, fun j t ht => by
        rw [Tryd.params3] at ht
        have hall : (Tryd.f3.params.toList.all fun u => !Tryd.prog.wantsStandIn u) = true := by kernel_rfl
        rw [Tryd.params3] at hall
        have hm := Array.mem_of_getElem? ht
        have := List.all_eq_true.1 hall t (Array.mem_toList_iff.2 hm)
        exact (fun (b : Bool) (h : (!b) = true) => (by cases b <;> simp_all : b = false)) _ this⟩)
    (by kernel_rfl)
#print axioms card
end Go.Proofs.YtdamjkfggmmmeacDoor.crcMachines
namespace Go.Proofs.YtdamjkfggmmmeacDoor
/-- The row, under a short name, for the claim. -/
theorem crcMachines_holds : Rows.CrcMachinesCardSaid := crcMachines.card
end Go.Proofs.YtdamjkfggmmmeacDoor
