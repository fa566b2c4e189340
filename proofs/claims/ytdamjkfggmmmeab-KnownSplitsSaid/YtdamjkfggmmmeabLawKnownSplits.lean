-- WRITTEN BY A PROGRAM OF THIS SESSION (a print of its own, with given functions). Not trusted: Lean checks it.
import Derived.Test.YtdamjkfggmmmeabRows
import Derived.Test.YtdamjkfggmmmeabPKsx3
import Derived.Test.YtdamjkfggmmmeabPKsx3
import Derived.Test.YtdamjkfggmmmeabPureKnownSplits
import Derived.Test.YtdamjkfggmmmeabRead
import Derived.WalkKit
import Derived.ProofKit
import Derived.OpenShut
import Derived.ShutString
import Derived.ChangeOld
import Derived.Below
import Derived.ChangeMaps5
import Derived.SizedLaws
import Derived.Lib.SmallJoins
namespace Go.Proofs.Ytdamjkfggmmmeab.knownSplits
open Go.ChangeShapes Go.WideShapes Go.ChangeAt Go.RowKit Go.Proofs.Ytdamjkfggmmmeab.PKs Go.Proofs.YtdamjkfggmmmeabW.PrintWords Go.Proofs.YtdamjkfggmmmeabW.PrintLast
open Go.ChangeMaps (open_string shut_string)
set_option linter.unusedVariables false
theorem own : ownKnob Try.prog.godebug = none := by kernel_rfl
theorem laidOut : laidOutB Try.prog = true := by kernel_rfl
theorem ft40 : Read.FT Try.prog 40 k40 (fun x => (Lit.int .i64 x.f0).wf = true ∧ (x.f1.length ≤ maxLen ∧ ∀ v4 ∈ x.f1, (Lit.int .u8 v4).wf = true)) := by
  refine ⟨by kernel_rfl, fun h => ?_⟩
  obtain ⟨xs, n, rfl, rfl, hl, hs, hf⟩ := DataW.trod_struct Try.underlying40 h
  obtain ⟨v0, k0_, g0⟩ := Read.field_of hf hs 0 3 0 rfl (Read.FT.int Try.underlying3 (by kernel_rfl))
  obtain ⟨v1, k1_, g1⟩ := Read.field_of hf hs 1 22 1 rfl (Read.FT.slice Try.underlying22 (by kernel_rfl) (Read.FT.int Try.underlying5 (by kernel_rfl)))
  have c1 := Read.last_cells (o := 1) (s := 1) (hl.trans (by kernel_rfl)) k1_
  have c0 := Read.pair_cells (o := 0) (s := 1) k0_ c1
  exact ⟨⟨v0, v1⟩, c0, g0, g1⟩
theorem fz40 : Read.FZ Try.prog 40 k40 (fun x => ((Lit.int .i64 x.f0).wf = true ∧ (x.f1.length ≤ maxLen ∧ ∀ v4 ∈ x.f1, (Lit.int .u8 v4).wf = true)) ∧ x.f1.length ≤ 140737488351232) := by
  refine ⟨by kernel_rfl, fun h hS => ?_⟩
  obtain ⟨xs, n, rfl, rfl, hl, hs, hf⟩ := DataW.trod_struct Try.underlying40 h
  obtain ⟨v0, k0_, g0⟩ := Read.field_ofZ hf hs Try.underlying40 hS 0 3 0 rfl (Read.FZ.of (Read.FT.int Try.underlying3 (by kernel_rfl)))
  obtain ⟨v1, k1_, g1⟩ := Read.field_ofZ hf hs Try.underlying40 hS 1 22 1 rfl (Read.FZ.slice Try.underlying22 (by kernel_rfl) (Read.FZ.of (Read.FT.int Try.underlying5 (by kernel_rfl))))
  have c1 := Read.last_cells (o := 1) (s := 1) (hl.trans (by kernel_rfl)) k1_
  have c0 := Read.pair_cells (o := 0) (s := 1) k0_ c1
  exact ⟨⟨v0, v1⟩, c0, ⟨g0, g1.1⟩, by show v1.length ≤ 140737488351232; have h_ := g1.2; rw [show Try.prog.bytesOf 5 = 1 by kernel_rfl] at h_; have h2_ : reachBytes = 140737488351232 := rfl; omega⟩
set_option maxRecDepth 100000 in
theorem lifted (os : Os) (started : os.Started) (H : Type) (enc : TypeId × Value → H) :
    ReturnsInHanded {} Try.checked os 4 .any (Rows.knownSplitsSpec.pre6 enc Try.prog Try.f4 Rows.knownSplitsRow.domain false) (Rows.knownSplitsSpec.post enc Try.prog Try.f4 false true false false) := by
  refine returnsInHanded_of_change_sized (C := Try.checked) own started (by kernel_rfl) Try.func4
    (ChangeSpec.witness6 (enc := enc) (C := Try.checked) false ⟨#[], #[.int .i64 0, .slice none 0 0, .string ByteArray.empty], []⟩ 8 (by kernel_rfl) (by kernel_rfl) (by kernel_rfl) (by kernel_rfl)) ?_
  intro W base args ds gs before hval0 hW hcnd hsz0 _
  have hval : ∀ (j : Nat) t v, Try.f4.params[j]? = some t → args[j]? = some v → Value.okWide Try.prog W .any base t v := hval0
  have hW' := hW
  obtain ⟨p, q, hA0, hV, rfl, hfz, hnd⟩ := hW
  have hA : DataW.TrodAll enc Try.prog W 0 (fun _ => true) true Try.f4.params.toList args.toList ds p := hA0
  rw [Try.params4] at hA hval
  obtain ⟨v0, vs0, d0, ds0, p0, q0, hargs, rfl, rfl, h0, r0⟩ := trodAll_cons hA
  obtain ⟨v1, vs1, d1, ds1, p1, q1, rfl, rfl, rfl, h1, r1⟩ := trodAll_cons r0
  obtain ⟨v2, vs2, d2, ds2, p2, q2, rfl, rfl, rfl, h2, r2⟩ := trodAll_cons r1
  obtain ⟨rfl, rfl, rfl⟩ := trodAll_nil r2
  obtain rfl : args = #[v0, v1, v2] := by cases args; simp_all
  obtain ⟨rfl, rfl⟩ := trodVars_none hV
  obtain ⟨a0, rfl, rfl, rfl, w0⟩ := open_int Try.underlying3 (hval 0 3 v0 rfl rfl) h0
  obtain ⟨a1, len1, cap1, rfl⟩ := okWide_slice Try.underlying36 (hval 1 36 v1 rfl rfl)
  have k1 := h1
  have lt1 : ∀ x ∈ p1, x.block < W.heap.size := by obtain ⟨m, hm⟩ := k1; exact DataW.trod_lt m _ _ _ hm
  obtain ⟨l1, rfl, hr1, hc1, hm1, hg1⟩ := Read.arg_rowZ Try.underlying36 fz40 h1 (fun n_ hn_ => by have h_ := List.all_eq_true.1 hsz0 n_ (DataW.weights_mem_each (j := 1) (t := 36) (d := d1) rfl rfl n_ hn_); simpa using h_)
  obtain ⟨a2, rfl, rfl, rfl, y2⟩ := open_string Try.underlying9 (hval 2 9 v2 rfl rfl) h2
  have w2 : a2.size ≤ 140737488351232 := by
    have z := sized_string hsz0 (j := 2) (t := 9) rfl rfl
    rw [Array.length_toList] at z
    exact z
  clear hA0 hval0 hsz0
  obtain ⟨k, hp⟩ := Pure.KnownSplits a0 l1 a2 w0 hm1 (fun v_ hv_ => (hg1 v_ hv_).1) w2 (fun v_ hv_ => (hg1 v_ hv_).2)
  refine (PKs.polyglotlaw07_KnownSplits.calls k a0 _ _ l1 a2 true W hr1 hc1 hp).mono fun e W' hpost => ?_
  obtain ⟨he, bel⟩ := hpost
  subst he
  exact ⟨_, rfl, _, _, _, [], _, [], hW', trodAll_mk1 (shut_bool Try.underlying4 _), (trodAll_cons_mk (shut_int Try.underlying3 w0) (trodAll_cons_mk (Below.trod laidOut (by kernel_rfl) (of_decide_eq_true (by kernel_rfl)) k1 bel lt1) (trodAll_cons_mk (shut_string Try.underlying9 y2) trodAll_mk0))), rfl, bel.frame _, fun h => by cases h⟩
theorem over : Rows.knownSplitsRow.holds Try.pinned (OpenSpec.ofChange Rows.knownSplitsSpec) :=
  OpenClaim.holds_of_wide 4 Try.f4 rfl rfl rfl rfl rfl rfl rfl ⟨rfl, rfl, rfl, rfl, rfl⟩ rfl rfl rfl rfl rfl (by kernel_rfl) Try.func4 (by kernel_rfl)
    (of_decide_eq_true (by kernel_rfl)) (by unfold Func.isWrapper; first | (rw [if_pos (by decide +kernel)]; kernel_rfl) | (rw [if_neg (by decide +kernel)]; exact ⟨rfl, rfl⟩))
    (fun os started H enc _ => lifted os started H enc)
theorem proved : Rows.KnownSplitsSaid := over
#print axioms proved
end Go.Proofs.Ytdamjkfggmmmeab.knownSplits
namespace Go.Proofs.Ytdamjkfggmmmeab
/-- The row, under a short name, for the claim. -/
theorem knownSplits_holds : Rows.KnownSplitsSaid := knownSplits.proved
end Go.Proofs.Ytdamjkfggmmmeab
