-- WRITTEN BY A PROGRAM OF THIS SESSION (a print of its own, with given functions). Not trusted: Lean checks it.
import Derived.Test.YtdamjkfggmmmeabRows
import Derived.Test.YtdamjkfggmmmeabPTjx3
import Derived.Test.YtdamjkfggmmmeabPTjx3
import Derived.Test.YtdamjkfggmmmeabPureTlvJoins
import Derived.Test.YtdamjkfggmmmeabRead
import Derived.WalkKit
import Derived.ProofKit
import Derived.OpenShut
import Derived.ShutString
import Derived.ChangeOld
import Derived.Below
import Derived.SizedLaws
import Derived.Lib.SmallJoins
namespace Go.Proofs.Ytdamjkfggmmmeab.tlvJoins
open Go.ChangeShapes Go.WideShapes Go.ChangeAt Go.RowKit Go.Proofs.Ytdamjkfggmmmeab.PTj Go.Proofs.YtdamjkfggmmmeabW.PrintWords Go.Proofs.YtdamjkfggmmmeabW.PrintLast
set_option linter.unusedVariables false
theorem own : ownKnob Try.prog.godebug = none := by kernel_rfl
theorem laidOut : laidOutB Try.prog = true := by kernel_rfl
theorem ft40 : Read.FT Try.prog 40 k40 (fun x => (Lit.int .i64 x.f0).wf = true ∧ (x.f1.length ≤ maxLen ∧ ∀ v4 ∈ x.f1, (Lit.int .u8 v4).wf = true)) := by
  refine ⟨by kernel_rfl, fun h => ?_⟩
  obtain ⟨xs, n, rfl, rfl, hl, hs, hf⟩ := DataW.trod_struct Try.underlying40 h
  obtain ⟨v0, k0_, g0⟩ := Read.field_of hf hs 0 3 0 rfl (Read.FT.int Try.underlying3 (by kernel_rfl))
  obtain ⟨v1, k1_, g1⟩ := Read.field_of hf hs 1 22 1 rfl (Read.FT.slice Try.underlying22 (by kernel_rfl) (Read.FT.int Try.underlying5 (by kernel_rfl)))
  have c1 := Read.last_cells (o := 1) (s := 1) (hl.trans (by kernel_rfl)) k1_
  have c0 := Read.pair_cells (o := 0) (s := 1) k0_ c1
  exact ⟨⟨v0, v1⟩, c0, g0, g1⟩
set_option maxRecDepth 100000 in
theorem lifted (os : Os) (started : os.Started) (H : Type) (enc : TypeId × Value → H) :
    ReturnsInHanded {} Try.checked os 8 .any (Rows.tlvJoinsSpec.pre6 enc Try.prog Try.f8 Rows.tlvJoinsRow.domain false) (Rows.tlvJoinsSpec.post enc Try.prog Try.f8 false true false false) := by
  refine returnsInHanded_of_change_sized (C := Try.checked) own started (by kernel_rfl) Try.func8
    (ChangeSpec.witness6 (enc := enc) (C := Try.checked) false ⟨#[], #[.slice none 0 0], []⟩ 8 (by kernel_rfl) (by kernel_rfl) (by kernel_rfl) (by kernel_rfl)) ?_
  intro W base args ds gs before hval0 hW hcnd hsz0 _
  have hval : ∀ (j : Nat) t v, Try.f8.params[j]? = some t → args[j]? = some v → Value.okWide Try.prog W .any base t v := hval0
  have hW' := hW
  obtain ⟨p, q, hA0, hV, rfl, hfz, hnd⟩ := hW
  have hA : DataW.TrodAll enc Try.prog W 0 (fun _ => true) true Try.f8.params.toList args.toList ds p := hA0
  rw [Try.params8] at hA hval
  obtain ⟨v0, vs0, d0, ds0, p0, q0, hargs, rfl, rfl, h0, r0⟩ := trodAll_cons hA
  obtain ⟨rfl, rfl, rfl⟩ := trodAll_nil r0
  obtain rfl : args = #[v0] := by cases args; simp_all
  obtain ⟨rfl, rfl⟩ := trodVars_none hV
  obtain ⟨a0, len0, cap0, rfl⟩ := okWide_slice Try.underlying36 (hval 0 36 v0 rfl rfl)
  have k0 := h0
  have lt0 : ∀ x ∈ p0, x.block < W.heap.size := by obtain ⟨m, hm⟩ := k0; exact DataW.trod_lt m _ _ _ hm
  obtain ⟨l0, rfl, hr0, hc0, hm0, hg0⟩ := Read.arg_row Try.underlying36 ft40 h0
  clear hA0 hval0 hsz0
  obtain ⟨k, hp⟩ := Pure.TlvJoins l0 hm0 hg0
  refine (PTj.polyglotlaw12_TlvJoins.calls k _ _ l0 true W hr0 hc0 hp).mono fun e W' hpost => ?_
  obtain ⟨he, bel⟩ := hpost
  subst he
  exact ⟨_, rfl, _, _, _, [], _, [], hW', trodAll_mk1 (shut_bool Try.underlying4 _), (trodAll_cons_mk (Below.trod laidOut (by kernel_rfl) (of_decide_eq_true (by kernel_rfl)) k0 bel lt0) trodAll_mk0), rfl, bel.frame _, fun h => by cases h⟩
theorem over : Rows.tlvJoinsRow.holds Try.pinned (OpenSpec.ofChange Rows.tlvJoinsSpec) :=
  OpenClaim.holds_of_wide 8 Try.f8 rfl rfl rfl rfl rfl rfl rfl ⟨rfl, rfl, rfl, rfl, rfl⟩ rfl rfl rfl rfl rfl (by kernel_rfl) Try.func8 (by kernel_rfl)
    (of_decide_eq_true (by kernel_rfl)) (by unfold Func.isWrapper; first | (rw [if_pos (by decide +kernel)]; kernel_rfl) | (rw [if_neg (by decide +kernel)]; exact ⟨rfl, rfl⟩))
    (fun os started H enc _ => lifted os started H enc)
theorem proved : Rows.TlvJoinsSaid := over
#print axioms proved
end Go.Proofs.Ytdamjkfggmmmeab.tlvJoins
namespace Go.Proofs.Ytdamjkfggmmmeab
/-- The row, under a short name, for the claim. -/
theorem tlvJoins_holds : Rows.TlvJoinsSaid := tlvJoins.proved
end Go.Proofs.Ytdamjkfggmmmeab
