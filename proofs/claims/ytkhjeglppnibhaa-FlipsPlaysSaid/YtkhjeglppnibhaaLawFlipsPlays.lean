-- WRITTEN BY A PROGRAM OF THIS SESSION (a print of its own, with given functions). Not trusted: Lean checks it.
import Derived.Test.YtkhjeglppnibhaaRows
import Derived.Test.YtkhjeglppnibhaaPFpx2
import Derived.Test.YtkhjeglppnibhaaPFpx2
import Derived.Test.YtkhjeglppnibhaaPureFlipsPlays
import Derived.Test.YtkhjeglppnibhaaRead
import Derived.WalkKit
import Derived.ProofKit
import Derived.OpenShut
import Derived.ShutString
import Derived.ChangeOld
import Derived.Below
import Derived.SizedLaws
import Derived.Lib.SmallJoins
namespace Go.Proofs.Ytkhjeglppnibhaa.flipsPlays
open Go.ChangeShapes Go.WideShapes Go.ChangeAt Go.RowKit Go.Proofs.Ytkhjeglppnibhaa.PFp Go.Proofs.YtkhjeglppnibhaaW.PrintWords Go.Proofs.YtkhjeglppnibhaaW.PrintLast
set_option linter.unusedVariables false
theorem own : ownKnob Try.prog.godebug = none := by kernel_rfl
theorem laidOut : laidOutB Try.prog = true := by kernel_rfl
theorem ft43 : Read.FT Try.prog 43 k43 (fun x => (Lit.int .i64 x.f0).wf = true ∧ (Lit.int .i64 x.f1).wf = true) := by
  refine ⟨by kernel_rfl, fun h => ?_⟩
  obtain ⟨xs, n, rfl, rfl, hl, hs, hf⟩ := DataW.trod_struct Try.underlying43 h
  obtain ⟨v0, k0_, g0⟩ := Read.field_of hf hs 0 3 0 rfl (Read.FT.int Try.underlying3 (by kernel_rfl))
  obtain ⟨v1, k1_, g1⟩ := Read.field_of hf hs 1 3 1 rfl (Read.FT.int Try.underlying3 (by kernel_rfl))
  have c1 := Read.last_cells (o := 1) (s := 1) (hl.trans (by kernel_rfl)) k1_
  have c0 := Read.pair_cells (o := 0) (s := 1) k0_ c1
  exact ⟨⟨v0, v1⟩, c0, g0, g1⟩
theorem ft62 : Read.FT Try.prog 62 k62 (fun x => (Lit.int .i64 x.f0).wf = true ∧ (x.f1.length ≤ maxLen ∧ ∀ v4 ∈ x.f1, (Lit.int .u8 v4).wf = true)) := by
  refine ⟨by kernel_rfl, fun h => ?_⟩
  obtain ⟨xs, n, rfl, rfl, hl, hs, hf⟩ := DataW.trod_struct Try.underlying62 h
  obtain ⟨v0, k0_, g0⟩ := Read.field_of hf hs 0 3 0 rfl (Read.FT.int Try.underlying3 (by kernel_rfl))
  obtain ⟨v1, k1_, g1⟩ := Read.field_of hf hs 1 60 1 rfl (Read.FT.slice Try.underlying60 (by kernel_rfl) (Read.FT.int Try.underlying5 (by kernel_rfl)))
  have c1 := Read.last_cells (o := 1) (s := 1) (hl.trans (by kernel_rfl)) k1_
  have c0 := Read.pair_cells (o := 0) (s := 1) k0_ c1
  exact ⟨⟨v0, v1⟩, c0, g0, g1⟩
theorem ft46 : Read.FT Try.prog 46 k46 (fun x => (Lit.int .i64 x.f0).wf = true ∧ (Lit.int .i64 x.f1).wf = true ∧ (Lit.int .i64 x.f2).wf = true ∧ ((Lit.int .i64 x.f3.f0).wf = true ∧ (Lit.int .i64 x.f3.f1).wf = true) ∧ True ∧ (x.f5.length ≤ maxLen ∧ ∀ v4 ∈ x.f5, ((Lit.int .i64 v4.f0).wf = true ∧ (v4.f1.length ≤ maxLen ∧ ∀ v5 ∈ v4.f1, (Lit.int .u8 v5).wf = true)))) := by
  refine ⟨by kernel_rfl, fun h => ?_⟩
  obtain ⟨xs, n, rfl, rfl, hl, hs, hf⟩ := DataW.trod_struct Try.underlying46 h
  obtain ⟨v0, k0_, g0⟩ := Read.field_of hf hs 0 3 0 rfl (Read.FT.int Try.underlying3 (by kernel_rfl))
  obtain ⟨v1, k1_, g1⟩ := Read.field_of hf hs 1 3 1 rfl (Read.FT.int Try.underlying3 (by kernel_rfl))
  obtain ⟨v2, k2_, g2⟩ := Read.field_of hf hs 2 3 2 rfl (Read.FT.int Try.underlying3 (by kernel_rfl))
  obtain ⟨v3, k3_, g3⟩ := Read.field_of hf hs 3 43 3 rfl ft43
  obtain ⟨v4, k4_, g4⟩ := Read.field_of hf hs 4 4 5 rfl (Read.FT.bool Try.underlying4 (by kernel_rfl))
  obtain ⟨v5, k5_, g5⟩ := Read.field_of hf hs 5 44 6 rfl (Read.FT.slice Try.underlying44 (by kernel_rfl) ft62)
  have c5 := Read.last_cells (o := 6) (s := 1) (hl.trans (by kernel_rfl)) k5_
  have c4 := Read.pair_cells (o := 5) (s := 1) k4_ c5
  have c3 := Read.pair_cells (o := 3) (s := 2) k3_ c4
  have c2 := Read.pair_cells (o := 2) (s := 1) k2_ c3
  have c1 := Read.pair_cells (o := 1) (s := 1) k1_ c2
  have c0 := Read.pair_cells (o := 0) (s := 1) k0_ c1
  exact ⟨⟨v0, v1, v2, v3, v4, v5⟩, c0, g0, g1, g2, g3, g4, g5⟩
set_option maxRecDepth 100000 in
theorem lifted (os : Os) (started : os.Started) (H : Type) (enc : TypeId × Value → H) :
    ReturnsInHanded {} Try.checked os 4 .any (Rows.flipsPlaysSpec.pre6 enc Try.prog Try.f4 Rows.flipsPlaysRow.domain false) (Rows.flipsPlaysSpec.post enc Try.prog Try.f4 false true false false) := by
  refine returnsInHanded_of_change_sized (C := Try.checked) own started (by kernel_rfl) Try.func4
    (ChangeSpec.witness6 (enc := enc) (C := Try.checked) false ⟨#[], #[.slice none 0 0, .slice none 0 0, .int .i64 0], []⟩ 8 (by kernel_rfl) (by kernel_rfl) (by kernel_rfl) (by kernel_rfl)) ?_
  intro W base args ds gs before hval0 hW hcnd hsz0 _
  have hval : ∀ (j : Nat) t v, Try.f4.params[j]? = some t → args[j]? = some v → Value.okWide Try.prog W .any base t v := hval0
  have hW' := hW
  obtain ⟨p, q, hA0, hV, rfl, hfz, hnd⟩ := hW
  have hA : DataW.TrodAll enc Try.prog W 0 (fun _ => true) true Try.f4.params.toList args.toList ds p := hA0
  rw [Try.params4] at hA hval
  obtain ⟨v0, vs0, d0, ds0, p0, q0, hargs, rfl, rfl, h0, r0⟩ := trodAll_cons hA
  obtain ⟨v1, vs1, d1, ds1, p1, q1, rfl, rfl, rfl, h1, r1⟩ := trodAll_cons r0
  obtain ⟨v2, vs2, d2, ds2, p2, q2, rfl, rfl, rfl, h2, r2⟩ := trodAll_cons r1
  obtain ⟨rfl, rfl, rfl⟩ := trodAll_nil r2
  obtain rfl : args = #[v0, v1, v2] := by cases args; simp_all
  obtain ⟨rfl, rfl⟩ := trodVars_none hV
  obtain ⟨a0, len0, cap0, rfl⟩ := okWide_slice Try.underlying22 (hval 0 22 v0 rfl rfl)
  have k0 := h0
  have lt0 : ∀ x ∈ p0, x.block < W.heap.size := by obtain ⟨m, hm⟩ := k0; exact DataW.trod_lt m _ _ _ hm
  obtain ⟨l0, rfl, hr0, hc0, hm0, hg0⟩ := Read.arg_row Try.underlying22 (Read.FT.slice Try.underlying27 (by kernel_rfl) ft46) h0
  obtain ⟨a1, len1, cap1, rfl⟩ := okWide_slice Try.underlying36 (hval 1 36 v1 rfl rfl)
  have k1 := h1
  have lt1 : ∀ x ∈ p1, x.block < W.heap.size := by obtain ⟨m, hm⟩ := k1; exact DataW.trod_lt m _ _ _ hm
  obtain ⟨l1, rfl, hr1, hc1, hm1, hg1⟩ := Read.arg_row Try.underlying36 (Read.FT.int Try.underlying3 (by kernel_rfl)) h1
  obtain ⟨a2, rfl, rfl, rfl, w2⟩ := open_int Try.underlying3 (hval 2 3 v2 rfl rfl) h2
  clear hA0 hval0 hsz0
  have hp := Pure.FlipsPlays l0 l1 a2 hm0 hg0 hm1 hg1 w2
  refine (PFp.polyglotlaw48_FlipsPlays.calls _ _ l0 _ _ l1 a2 true W hr0 hc0 hr1 hc1 hp).mono fun e W' hpost => ?_
  obtain ⟨he, bel⟩ := hpost
  subst he
  exact ⟨_, rfl, _, _, _, [], _, [], hW', trodAll_mk1 (shut_bool Try.underlying4 _), (trodAll_cons_mk (Below.trod laidOut (by kernel_rfl) (of_decide_eq_true (by kernel_rfl)) k0 bel lt0) (trodAll_cons_mk (Below.trod laidOut (by kernel_rfl) (of_decide_eq_true (by kernel_rfl)) k1 bel lt1) (trodAll_cons_mk (shut_int Try.underlying3 w2) trodAll_mk0))), rfl, bel.frame _, fun h => by cases h⟩
theorem over : Rows.flipsPlaysRow.holds Try.pinned (OpenSpec.ofChange Rows.flipsPlaysSpec) :=
  OpenClaim.holds_of_wide 4 Try.f4 rfl rfl rfl rfl rfl rfl rfl ⟨rfl, rfl, rfl, rfl, rfl⟩ rfl rfl rfl rfl rfl (by kernel_rfl) Try.func4 (by kernel_rfl)
    (of_decide_eq_true (by kernel_rfl)) (by unfold Func.isWrapper; first | (rw [if_pos (by decide +kernel)]; kernel_rfl) | (rw [if_neg (by decide +kernel)]; exact ⟨rfl, rfl⟩))
    (fun os started H enc _ => lifted os started H enc)
theorem proved : Rows.FlipsPlaysSaid := over
#print axioms proved
end Go.Proofs.Ytkhjeglppnibhaa.flipsPlays
namespace Go.Proofs.Ytkhjeglppnibhaa
/-- The row, under a short name, for the claim. -/
theorem flipsPlays_holds : Rows.FlipsPlaysSaid := flipsPlays.proved
end Go.Proofs.Ytkhjeglppnibhaa
