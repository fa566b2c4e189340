-- WRITTEN BY A PROGRAM OF THIS SESSION (a print of its own, with given functions). Not trusted: Lean checks it.
import Derived.Test.YtdamjkfggmmmeabPKnx0
import Derived.Test.YtdamjkfggmmmeabPKnx1
import Derived.Test.YtdamjkfggmmmeabPKnx2
import Derived.Test.YtdamjkfggmmmeabPKnx3
namespace Go.Proofs.Ytdamjkfggmmmeab.PKn
open Go.RowKit Go.Proofs.YtdamjkfggmmmeabW.PrintWords Go.Proofs.YtdamjkfggmmmeabW.PrintLast Go.Proofs.YtdamjkfggmmmeabW.PrintMore
attribute [local go_sem] max2_int min2_int max_two min_two max_three min_three max_four min_four   -- for this text's walks alone
set_option linter.unusedVariables false
set_option linter.unusedSimpArgs false

/-! ### polyglotlaw07_KnownReads: function 6 -/
mutual
def polyglotlaw07_KnownReads.j0 : Nat → List (S40) → Int → Bool → Int → Bool → ByteArray → Bool → Int → Bool → Option (Bool)
  | 0, _, _, _, _, _, _, _, _, _ => none
  | k + 1, x0, x3, x4, x5, x6, x7, x8, x9, x41 => if x41 = true then (if x4 = true then (if 0 ≤ x9 then (if x9 < (x0.length : Int) then (if 0 < (((rd_T40 x0 x9).f1).length : Int) then (if x3 = (wrap64 (rd ((rd_T40 x0 x9).f1) 0)) then (polyglotlaw07_KnownReads.j1 k x0 x5 x6 x7 x8) else (some false)) else (none)) else (none)) else (none)) else (some false)) else (if x4 = true then (some false) else (if x3 = 0 then (polyglotlaw07_KnownReads.j1 k x0 x5 x6 x7 x8) else (some false)))
def polyglotlaw07_KnownReads.j1 : Nat → List (S40) → Int → Bool → ByteArray → Bool → Option (Bool)
  | 0, _, _, _, _, _ => none
  | k + 1, x0, x5, x6, x7, x8 => (polyglotlaw07_first.f k x0 33).bind fun t138 => (if t138 ≥ 0 then (if 0 ≤ t138 then (if t138 < (x0.length : Int) then (polyglotlaw07_KnownReads.j2 k x0 x5 x6 x7 x8 t138 ((((rd_T40 x0 t138).f1).length : Int) == 2)) else (none)) else (none)) else (polyglotlaw07_KnownReads.j2 k x0 x5 x6 x7 x8 t138 false))
def polyglotlaw07_KnownReads.j2 : Nat → List (S40) → Int → Bool → ByteArray → Bool → Int → Bool → Option (Bool)
  | 0, _, _, _, _, _, _, _ => none
  | k + 1, x0, x5, x6, x7, x8, x9, x73 => if x73 = true then (if x6 = true then (if 0 ≤ x9 then (if x9 < (x0.length : Int) then (if 0 < (((rd_T40 x0 x9).f1).length : Int) then (if 1 < (((rd_T40 x0 x9).f1).length : Int) then (if x5 = (wrap64 ((wrap64 ((wrap64 (rd ((rd_T40 x0 x9).f1) 0)) * 256)) + (wrap64 (rd ((rd_T40 x0 x9).f1) 1)))) then (polyglotlaw07_KnownReads.j3 k x0 x7 x8) else (some false)) else (none)) else (none)) else (none)) else (none)) else (some false)) else (if x6 = true then (some false) else (if x5 = 0 then (polyglotlaw07_KnownReads.j3 k x0 x7 x8) else (some false)))
def polyglotlaw07_KnownReads.j3 : Nat → List (S40) → ByteArray → Bool → Option (Bool)
  | 0, _, _, _ => none
  | k + 1, x0, x7, x8 => (polyglotlaw07_first.f k x0 34).bind fun t144 => (if t144 ≥ 0 then (if 0 ≤ t144 then (if t144 < (x0.length : Int) then (if (((rd_T40 x0 t144).f1).length : Int) > 0 then ((polyglotlaw07_plain.f k (strOfNums ((rd_T40 x0 t144).f1))).bind fun t147 => (polyglotlaw07_KnownReads.j4 k x0 x7 x8 t144 t147)) else (polyglotlaw07_KnownReads.j4 k x0 x7 x8 t144 false)) else (none)) else (none)) else (polyglotlaw07_KnownReads.j4 k x0 x7 x8 t144 false))
def polyglotlaw07_KnownReads.j4 : Nat → List (S40) → ByteArray → Bool → Int → Bool → Option (Bool)
  | 0, _, _, _, _, _ => none
  | k + 1, x0, x7, x8, x9, x124 => if x124 = true then (if x8 = true then (if 0 ≤ x9 then (if x9 < (x0.length : Int) then (if x7.toList = (strOfNums ((rd_T40 x0 x9).f1)).toList then ((polyglotlaw07_awake.f).bind fun t149 => (some t149)) else (some false)) else (none)) else (none)) else (some false)) else (if x8 = true then (some false) else (if x7.toList = ([] : List UInt8) then ((polyglotlaw07_awake.f).bind fun t150 => (some t150)) else (some false)))
end
def polyglotlaw07_KnownReads.f (k : Nat) (l0 : List (S40)) : Option (Bool) := (polyglotlaw06_Few.f k l0).bind fun t126 => (if t126 = true then ((known_ZoneOf.f k l0).bind fun bt128 => ((known_LoadOf.f k l0).bind fun bt130 => ((known_BuildOf.f k l0).bind fun bt132 => ((polyglotlaw07_first.f k l0 32).bind fun t134 => (if t134 ≥ 0 then (if 0 ≤ t134 then (if t134 < (l0.length : Int) then (polyglotlaw07_KnownReads.j0 k l0 bt128.1 bt128.2 bt130.1 bt130.2 bt132.1 bt132.2 t134 ((((rd_T40 l0 t134).f1).length : Int) == 1)) else (none)) else (none)) else (polyglotlaw07_KnownReads.j0 k l0 bt128.1 bt128.2 bt130.1 bt130.2 bt132.1 bt132.2 t134 false)))))) else ((polyglotlaw07_awake.f).bind fun t127 => (some t127)))
theorem polyglotlaw07_KnownReads.mono_l : ∀ k, (∀ y0 y1 y2 y3 y4 y5 y6 y7 y8, LeO (polyglotlaw07_KnownReads.j0 k y0 y1 y2 y3 y4 y5 y6 y7 y8) (polyglotlaw07_KnownReads.j0 (k + 1) y0 y1 y2 y3 y4 y5 y6 y7 y8)) ∧ (∀ y0 y1 y2 y3 y4, LeO (polyglotlaw07_KnownReads.j1 k y0 y1 y2 y3 y4) (polyglotlaw07_KnownReads.j1 (k + 1) y0 y1 y2 y3 y4)) ∧ (∀ y0 y1 y2 y3 y4 y5 y6, LeO (polyglotlaw07_KnownReads.j2 k y0 y1 y2 y3 y4 y5 y6) (polyglotlaw07_KnownReads.j2 (k + 1) y0 y1 y2 y3 y4 y5 y6)) ∧ (∀ y0 y1 y2, LeO (polyglotlaw07_KnownReads.j3 k y0 y1 y2) (polyglotlaw07_KnownReads.j3 (k + 1) y0 y1 y2)) ∧ (∀ y0 y1 y2 y3 y4, LeO (polyglotlaw07_KnownReads.j4 k y0 y1 y2 y3 y4) (polyglotlaw07_KnownReads.j4 (k + 1) y0 y1 y2 y3 y4))
  | 0 => ⟨fun _ _ _ _ _ _ _ _ _ r h => by simp [polyglotlaw07_KnownReads.j0] at h, fun _ _ _ _ _ r h => by simp [polyglotlaw07_KnownReads.j1] at h, fun _ _ _ _ _ _ _ r h => by simp [polyglotlaw07_KnownReads.j2] at h, fun _ _ _ r h => by simp [polyglotlaw07_KnownReads.j3] at h, fun _ _ _ _ _ r h => by simp [polyglotlaw07_KnownReads.j4] at h⟩
  | k + 1 => by
    obtain ⟨ih0, ih1, ih2, ih3, ih4⟩ := polyglotlaw07_KnownReads.mono_l k
    refine ⟨?_, ?_, ?_, ?_, ?_⟩
    · intro y0 y1 y2 y3 y4 y5 y6 y7 y8
      unfold polyglotlaw07_KnownReads.j0
      repeat' first
      | (with_reducible exact ih0 _ _ _ _ _ _ _ _ _)
      | (with_reducible exact ih1 _ _ _ _ _)
      | (with_reducible exact ih2 _ _ _ _ _ _ _)
      | (with_reducible exact ih3 _ _ _)
      | (with_reducible exact ih4 _ _ _ _ _)
      | (with_reducible exact known_BuildOf.mono _ _)
      | (with_reducible exact known_LoadOf.mono _ _)
      | (with_reducible exact known_ZoneOf.mono _ _)
      | (with_reducible exact polyglotlaw06_Few.mono _ _)
      | (with_reducible exact polyglotlaw07_first.mono _ _ _)
      | (with_reducible exact polyglotlaw07_plain.mono _ _)
      | (with_reducible exact LeO.refl _)
      | (with_reducible exact LeO.none _)
      | (with_reducible refine LeO.ite ?_ ?_)
      | (with_reducible refine LeO.bind ?_ (fun _ => ?_))
      | exact ih0 _ _ _ _ _ _ _ _ _
      | exact ih1 _ _ _ _ _
      | exact ih2 _ _ _ _ _ _ _
      | exact ih3 _ _ _
      | exact ih4 _ _ _ _ _
      | exact known_BuildOf.mono _ _
      | exact known_LoadOf.mono _ _
      | exact known_ZoneOf.mono _ _
      | exact polyglotlaw06_Few.mono _ _
      | exact polyglotlaw07_first.mono _ _ _
      | exact polyglotlaw07_plain.mono _ _
      | exact LeO.none _
      | refine LeO.ite ?_ ?_
      | refine LeO.bind ?_ (fun _ => ?_)
    · intro y0 y1 y2 y3 y4
      unfold polyglotlaw07_KnownReads.j1
      repeat' first
      | (with_reducible exact ih0 _ _ _ _ _ _ _ _ _)
      | (with_reducible exact ih1 _ _ _ _ _)
      | (with_reducible exact ih2 _ _ _ _ _ _ _)
      | (with_reducible exact ih3 _ _ _)
      | (with_reducible exact ih4 _ _ _ _ _)
      | (with_reducible exact known_BuildOf.mono _ _)
      | (with_reducible exact known_LoadOf.mono _ _)
      | (with_reducible exact known_ZoneOf.mono _ _)
      | (with_reducible exact polyglotlaw06_Few.mono _ _)
      | (with_reducible exact polyglotlaw07_first.mono _ _ _)
      | (with_reducible exact polyglotlaw07_plain.mono _ _)
      | (with_reducible exact LeO.refl _)
      | (with_reducible exact LeO.none _)
      | (with_reducible refine LeO.ite ?_ ?_)
      | (with_reducible refine LeO.bind ?_ (fun _ => ?_))
      | exact ih0 _ _ _ _ _ _ _ _ _
      | exact ih1 _ _ _ _ _
      | exact ih2 _ _ _ _ _ _ _
      | exact ih3 _ _ _
      | exact ih4 _ _ _ _ _
      | exact known_BuildOf.mono _ _
      | exact known_LoadOf.mono _ _
      | exact known_ZoneOf.mono _ _
      | exact polyglotlaw06_Few.mono _ _
      | exact polyglotlaw07_first.mono _ _ _
      | exact polyglotlaw07_plain.mono _ _
      | exact LeO.none _
      | refine LeO.ite ?_ ?_
      | refine LeO.bind ?_ (fun _ => ?_)
    · intro y0 y1 y2 y3 y4 y5 y6
      unfold polyglotlaw07_KnownReads.j2
      repeat' first
      | (with_reducible exact ih0 _ _ _ _ _ _ _ _ _)
      | (with_reducible exact ih1 _ _ _ _ _)
      | (with_reducible exact ih2 _ _ _ _ _ _ _)
      | (with_reducible exact ih3 _ _ _)
      | (with_reducible exact ih4 _ _ _ _ _)
      | (with_reducible exact known_BuildOf.mono _ _)
      | (with_reducible exact known_LoadOf.mono _ _)
      | (with_reducible exact known_ZoneOf.mono _ _)
      | (with_reducible exact polyglotlaw06_Few.mono _ _)
      | (with_reducible exact polyglotlaw07_first.mono _ _ _)
      | (with_reducible exact polyglotlaw07_plain.mono _ _)
      | (with_reducible exact LeO.refl _)
      | (with_reducible exact LeO.none _)
      | (with_reducible refine LeO.ite ?_ ?_)
      | (with_reducible refine LeO.bind ?_ (fun _ => ?_))
      | exact ih0 _ _ _ _ _ _ _ _ _
      | exact ih1 _ _ _ _ _
      | exact ih2 _ _ _ _ _ _ _
      | exact ih3 _ _ _
      | exact ih4 _ _ _ _ _
      | exact known_BuildOf.mono _ _
      | exact known_LoadOf.mono _ _
      | exact known_ZoneOf.mono _ _
      | exact polyglotlaw06_Few.mono _ _
      | exact polyglotlaw07_first.mono _ _ _
      | exact polyglotlaw07_plain.mono _ _
      | exact LeO.none _
      | refine LeO.ite ?_ ?_
      | refine LeO.bind ?_ (fun _ => ?_)
    · intro y0 y1 y2
      unfold polyglotlaw07_KnownReads.j3
      repeat' first
      | (with_reducible exact ih0 _ _ _ _ _ _ _ _ _)
      | (with_reducible exact ih1 _ _ _ _ _)
      | (with_reducible exact ih2 _ _ _ _ _ _ _)
      | (with_reducible exact ih3 _ _ _)
      | (with_reducible exact ih4 _ _ _ _ _)
      | (with_reducible exact known_BuildOf.mono _ _)
      | (with_reducible exact known_LoadOf.mono _ _)
      | (with_reducible exact known_ZoneOf.mono _ _)
      | (with_reducible exact polyglotlaw06_Few.mono _ _)
      | (with_reducible exact polyglotlaw07_first.mono _ _ _)
      | (with_reducible exact polyglotlaw07_plain.mono _ _)
      | (with_reducible exact LeO.refl _)
      | (with_reducible exact LeO.none _)
      | (with_reducible refine LeO.ite ?_ ?_)
      | (with_reducible refine LeO.bind ?_ (fun _ => ?_))
      | exact ih0 _ _ _ _ _ _ _ _ _
      | exact ih1 _ _ _ _ _
      | exact ih2 _ _ _ _ _ _ _
      | exact ih3 _ _ _
      | exact ih4 _ _ _ _ _
      | exact known_BuildOf.mono _ _
      | exact known_LoadOf.mono _ _
      | exact known_ZoneOf.mono _ _
      | exact polyglotlaw06_Few.mono _ _
      | exact polyglotlaw07_first.mono _ _ _
      | exact polyglotlaw07_plain.mono _ _
      | exact LeO.none _
      | refine LeO.ite ?_ ?_
      | refine LeO.bind ?_ (fun _ => ?_)
    · intro y0 y1 y2 y3 y4
      unfold polyglotlaw07_KnownReads.j4
      repeat' first
      | (with_reducible exact ih0 _ _ _ _ _ _ _ _ _)
      | (with_reducible exact ih1 _ _ _ _ _)
      | (with_reducible exact ih2 _ _ _ _ _ _ _)
      | (with_reducible exact ih3 _ _ _)
      | (with_reducible exact ih4 _ _ _ _ _)
      | (with_reducible exact known_BuildOf.mono _ _)
      | (with_reducible exact known_LoadOf.mono _ _)
      | (with_reducible exact known_ZoneOf.mono _ _)
      | (with_reducible exact polyglotlaw06_Few.mono _ _)
      | (with_reducible exact polyglotlaw07_first.mono _ _ _)
      | (with_reducible exact polyglotlaw07_plain.mono _ _)
      | (with_reducible exact LeO.refl _)
      | (with_reducible exact LeO.none _)
      | (with_reducible refine LeO.ite ?_ ?_)
      | (with_reducible refine LeO.bind ?_ (fun _ => ?_))
      | exact ih0 _ _ _ _ _ _ _ _ _
      | exact ih1 _ _ _ _ _
      | exact ih2 _ _ _ _ _ _ _
      | exact ih3 _ _ _
      | exact ih4 _ _ _ _ _
      | exact known_BuildOf.mono _ _
      | exact known_LoadOf.mono _ _
      | exact known_ZoneOf.mono _ _
      | exact polyglotlaw06_Few.mono _ _
      | exact polyglotlaw07_first.mono _ _ _
      | exact polyglotlaw07_plain.mono _ _
      | exact LeO.none _
      | refine LeO.ite ?_ ?_
      | refine LeO.bind ?_ (fun _ => ?_)
theorem polyglotlaw07_KnownReads.mono : ∀ a0 k, LeO (polyglotlaw07_KnownReads.f k a0) (polyglotlaw07_KnownReads.f (k + 1) a0) := by
  intro a0 k
  obtain ⟨ih0, ih1, ih2, ih3, ih4⟩ := polyglotlaw07_KnownReads.mono_l k
  unfold polyglotlaw07_KnownReads.f
  repeat' first
      | (with_reducible exact ih0 _ _ _ _ _ _ _ _ _)
      | (with_reducible exact ih1 _ _ _ _ _)
      | (with_reducible exact ih2 _ _ _ _ _ _ _)
      | (with_reducible exact ih3 _ _ _)
      | (with_reducible exact ih4 _ _ _ _ _)
      | (with_reducible exact known_BuildOf.mono _ _)
      | (with_reducible exact known_LoadOf.mono _ _)
      | (with_reducible exact known_ZoneOf.mono _ _)
      | (with_reducible exact polyglotlaw06_Few.mono _ _)
      | (with_reducible exact polyglotlaw07_first.mono _ _ _)
      | (with_reducible exact polyglotlaw07_plain.mono _ _)
      | (with_reducible exact LeO.refl _)
      | (with_reducible exact LeO.none _)
      | (with_reducible refine LeO.ite ?_ ?_)
      | (with_reducible refine LeO.bind ?_ (fun _ => ?_))
      | exact ih0 _ _ _ _ _ _ _ _ _
      | exact ih1 _ _ _ _ _
      | exact ih2 _ _ _ _ _ _ _
      | exact ih3 _ _ _
      | exact ih4 _ _ _ _ _
      | exact known_BuildOf.mono _ _
      | exact known_LoadOf.mono _ _
      | exact known_ZoneOf.mono _ _
      | exact polyglotlaw06_Few.mono _ _
      | exact polyglotlaw07_first.mono _ _ _
      | exact polyglotlaw07_plain.mono _ _
      | exact LeO.none _
      | refine LeO.ite ?_ ?_
      | refine LeO.bind ?_ (fun _ => ?_)
set_option maxHeartbeats 8000000 in
set_option maxRecDepth 100000 in
theorem polyglotlaw07_KnownReads.calls (k : Nat) (A0 : Option Addr) (c0 : Nat) (l0 : List (S40)) (r : Bool) (w : World) (hr0 : Kd.C k40 w A0 l0.length l0) (hc0 : l0.length ≤ c0) (h : polyglotlaw07_KnownReads.f k l0 = some r) :
    Calls Try.prog 6 #[.slice A0 l0.length c0] w fun e w' => e = .returned (.bool r) ∧ Below w.heap.size w w' := by
  have HR0 := Aside0.mk hr0
  have HC0 := Aside0.mk hc0
  clear hr0 hc0
  have HB := Aside0.mk (Below.refl w.heap.size w)
  have H : ((polyglotlaw06_Few.f k l0).bind fun t126 => (if t126 = true then ((known_ZoneOf.f k l0).bind fun bt128 => ((known_LoadOf.f k l0).bind fun bt130 => ((known_BuildOf.f k l0).bind fun bt132 => ((polyglotlaw07_first.f k l0 32).bind fun t134 => (if t134 ≥ 0 then (if 0 ≤ t134 then (if t134 < (l0.length : Int) then (polyglotlaw07_KnownReads.j0 k l0 bt128.1 bt128.2 bt130.1 bt130.2 bt132.1 bt132.2 t134 ((((rd_T40 l0 t134).f1).length : Int) == 1)) else (none)) else (none)) else (polyglotlaw07_KnownReads.j0 k l0 bt128.1 bt128.2 bt130.1 bt130.2 bt132.1 bt132.2 t134 false)))))) else ((polyglotlaw07_awake.f).bind fun t127 => (some t127)))) = some r := h
  clear h
  replace H := Option.bind_eq_some_iff.mp H
  obtain ⟨t126, A20, H⟩ := H
  replace H : (if t126 = true then ((known_ZoneOf.f k l0).bind fun bt128 => ((known_LoadOf.f k l0).bind fun bt130 => ((known_BuildOf.f k l0).bind fun bt132 => ((polyglotlaw07_first.f k l0 32).bind fun t134 => (if t134 ≥ 0 then (if 0 ≤ t134 then (if t134 < (l0.length : Int) then (polyglotlaw07_KnownReads.j0 k l0 bt128.1 bt128.2 bt130.1 bt130.2 bt132.1 bt132.2 t134 ((((rd_T40 l0 t134).f1).length : Int) == 1)) else (none)) else (none)) else (polyglotlaw07_KnownReads.j0 k l0 bt128.1 bt128.2 bt130.1 bt130.2 bt132.1 bt132.2 t134 false)))))) else ((polyglotlaw07_awake.f).bind fun t127 => (some t127))) = some r := H
  have A2 := Aside0.mk A20
  clear A20
  by_cases c3 : t126 = true
  · subst c3
    have H1 : ((known_ZoneOf.f k l0).bind fun bt128 => ((known_LoadOf.f k l0).bind fun bt130 => ((known_BuildOf.f k l0).bind fun bt132 => ((polyglotlaw07_first.f k l0 32).bind fun t134 => (if t134 ≥ 0 then (if 0 ≤ t134 then (if t134 < (l0.length : Int) then (polyglotlaw07_KnownReads.j0 k l0 bt128.1 bt128.2 bt130.1 bt130.2 bt132.1 bt132.2 t134 ((((rd_T40 l0 t134).f1).length : Int) == 1)) else (none)) else (none)) else (polyglotlaw07_KnownReads.j0 k l0 bt128.1 bt128.2 bt130.1 bt130.2 bt132.1 bt132.2 t134 false)))))) = some r := by rw [if_pos rfl] at H; exact H
    clear H
    have H := H1
    clear H1
    replace H := Option.bind_eq_some_iff.mp H
    obtain ⟨⟨t128, t129⟩, A40, H⟩ := H
    replace H : ((known_LoadOf.f k l0).bind fun bt130 => ((known_BuildOf.f k l0).bind fun bt132 => ((polyglotlaw07_first.f k l0 32).bind fun t134 => (if t134 ≥ 0 then (if 0 ≤ t134 then (if t134 < (l0.length : Int) then (polyglotlaw07_KnownReads.j0 k l0 t128 t129 bt130.1 bt130.2 bt132.1 bt132.2 t134 ((((rd_T40 l0 t134).f1).length : Int) == 1)) else (none)) else (none)) else (polyglotlaw07_KnownReads.j0 k l0 t128 t129 bt130.1 bt130.2 bt132.1 bt132.2 t134 false))))) = some r := H
    have A4 := Aside0.mk A40
    clear A40
    replace H := Option.bind_eq_some_iff.mp H
    obtain ⟨⟨t130, t131⟩, A50, H⟩ := H
    replace H : ((known_BuildOf.f k l0).bind fun bt132 => ((polyglotlaw07_first.f k l0 32).bind fun t134 => (if t134 ≥ 0 then (if 0 ≤ t134 then (if t134 < (l0.length : Int) then (polyglotlaw07_KnownReads.j0 k l0 t128 t129 t130 t131 bt132.1 bt132.2 t134 ((((rd_T40 l0 t134).f1).length : Int) == 1)) else (none)) else (none)) else (polyglotlaw07_KnownReads.j0 k l0 t128 t129 t130 t131 bt132.1 bt132.2 t134 false)))) = some r := H
    have A5 := Aside0.mk A50
    clear A50
    replace H := Option.bind_eq_some_iff.mp H
    obtain ⟨⟨t132, t133⟩, A60, H⟩ := H
    replace H : ((polyglotlaw07_first.f k l0 32).bind fun t134 => (if t134 ≥ 0 then (if 0 ≤ t134 then (if t134 < (l0.length : Int) then (polyglotlaw07_KnownReads.j0 k l0 t128 t129 t130 t131 t132 t133 t134 ((((rd_T40 l0 t134).f1).length : Int) == 1)) else (none)) else (none)) else (polyglotlaw07_KnownReads.j0 k l0 t128 t129 t130 t131 t132 t133 t134 false))) = some r := H
    have A6 := Aside0.mk A60
    clear A60
    replace H := Option.bind_eq_some_iff.mp H
    obtain ⟨t134, A70, H⟩ := H
    replace H : (if t134 ≥ 0 then (if 0 ≤ t134 then (if t134 < (l0.length : Int) then (polyglotlaw07_KnownReads.j0 k l0 t128 t129 t130 t131 t132 t133 t134 ((((rd_T40 l0 t134).f1).length : Int) == 1)) else (none)) else (none)) else (polyglotlaw07_KnownReads.j0 k l0 t128 t129 t130 t131 t132 t133 t134 false)) = some r := H
    have A7 := Aside0.mk A70
    clear A70
    have HC8 := Aside0.mk H
    clear H
    go_enter Try.func6, Try.ntmps6
    go_upto_region 7 with (first | (go_at_call 21; (with_reducible refine (polyglotlaw06_Few.calls k _ _ l0 true _ ?side1 ?side2 A2.out).mono ?_); (case side1 => repeat (first | exact HR0.out | (with_reducible refine Kd.C_alloc ?_ _) | (with_reducible refine Kd.C_drewN ?_ _) | (with_reducible refine Kd.C_drew ?_))); (case side2 => exact HC0.out); rintro e w' ⟨rfl, ⟨nd, rfl⟩⟩; (try first | exact ⟨rfl, _, World.drewN_drewN _ _ _⟩ | exact ⟨rfl, _, Eq.trans (World.drewN_drewN _ _ _) (congrArg (World.drewN _) (Nat.add_assoc _ _ _))⟩)) | (go_at_call 33; (with_reducible refine (known_ZoneOf.calls k _ _ l0 t128 t129 _ ?side1 ?side2 A4.out).mono ?_); (case side1 => repeat (first | exact HR0.out | (with_reducible refine Kd.C_alloc ?_ _) | (with_reducible refine Kd.C_drewN ?_ _) | (with_reducible refine Kd.C_drew ?_))); (case side2 => exact HC0.out); rintro e w9 ⟨rfl, hb⟩; have n0_ := Aside0.mk (below_step (by repeat (first | (with_reducible first | exact HB.out | apply below_alloc | apply pw_below_drewN | apply below_drew1) | exact HB.out)) hb); clear HB; have HB := n0_; clear n0_; (try clear hb); (try clear hb2); (try clear hk); (try clear hi)) | (go_at_call 34; (with_reducible refine (known_LoadOf.calls k _ _ l0 t130 t131 _ ?side1 ?side2 A5.out).mono ?_); (case side1 => repeat (first | exact (Kd.C_below HR0.out HB.out) | (with_reducible refine Kd.C_alloc ?_ _) | (with_reducible refine Kd.C_drewN ?_ _) | (with_reducible refine Kd.C_drew ?_))); (case side2 => exact HC0.out); rintro e w10 ⟨rfl, hb⟩; have n0_ := Aside0.mk (below_step (by repeat (first | (with_reducible first | exact HB.out | apply below_alloc | apply pw_below_drewN | apply below_drew1) | exact HB.out)) hb); clear HB; have HB := n0_; clear n0_; (try clear hb); (try clear hb2); (try clear hk); (try clear hi)) | (go_at_call 35; (with_reducible refine (known_BuildOf.calls k _ _ l0 t132 t133 _ ?side1 ?side2 A6.out).mono ?_); (case side1 => repeat (first | exact (Kd.C_below HR0.out HB.out) | (with_reducible refine Kd.C_alloc ?_ _) | (with_reducible refine Kd.C_drewN ?_ _) | (with_reducible refine Kd.C_drew ?_))); (case side2 => exact HC0.out); rintro e w11 ⟨rfl, hb⟩; have n0_ := Aside0.mk (below_step (by repeat (first | (with_reducible first | exact HB.out | apply below_alloc | apply pw_below_drewN | apply below_drew1) | exact HB.out)) hb); clear HB; have HB := n0_; clear n0_; (try clear hb); (try clear hb2); (try clear hk); (try clear hi)) | (go_at_call 36; (with_reducible refine (polyglotlaw07_first.calls k _ _ l0 32 t134 _ ?side1 ?side2 A7.out).mono ?_); (case side1 => repeat (first | exact (Kd.C_below HR0.out HB.out) | (with_reducible refine Kd.C_alloc ?_ _) | (with_reducible refine Kd.C_drewN ?_ _) | (with_reducible refine Kd.C_drew ?_))); (case side2 => exact HC0.out); rintro e w' ⟨rfl, ⟨nd, rfl⟩⟩; (try first | exact ⟨rfl, _, World.drewN_drewN _ _ _⟩ | exact ⟨rfl, _, Eq.trans (World.drewN_drewN _ _ _) (congrArg (World.drewN _) (Nat.add_assoc _ _ _))⟩)))
    repeat (go_quiet (first | (go_at_call 21; (with_reducible refine (polyglotlaw06_Few.calls k _ _ l0 true _ ?side1 ?side2 A2.out).mono ?_); (case side1 => repeat (first | exact HR0.out | (with_reducible refine Kd.C_alloc ?_ _) | (with_reducible refine Kd.C_drewN ?_ _) | (with_reducible refine Kd.C_drew ?_))); (case side2 => exact HC0.out); rintro e w' ⟨rfl, ⟨nd, rfl⟩⟩; (try first | exact ⟨rfl, _, World.drewN_drewN _ _ _⟩ | exact ⟨rfl, _, Eq.trans (World.drewN_drewN _ _ _) (congrArg (World.drewN _) (Nat.add_assoc _ _ _))⟩)) | (go_at_call 33; (with_reducible refine (known_ZoneOf.calls k _ _ l0 t128 t129 _ ?side1 ?side2 A4.out).mono ?_); (case side1 => repeat (first | exact HR0.out | (with_reducible refine Kd.C_alloc ?_ _) | (with_reducible refine Kd.C_drewN ?_ _) | (with_reducible refine Kd.C_drew ?_))); (case side2 => exact HC0.out); rintro e w9 ⟨rfl, hb⟩; have n0_ := Aside0.mk (below_step (by repeat (first | (with_reducible first | exact HB.out | apply below_alloc | apply pw_below_drewN | apply below_drew1) | exact HB.out)) hb); clear HB; have HB := n0_; clear n0_; (try clear hb); (try clear hb2); (try clear hk); (try clear hi)) | (go_at_call 34; (with_reducible refine (known_LoadOf.calls k _ _ l0 t130 t131 _ ?side1 ?side2 A5.out).mono ?_); (case side1 => repeat (first | exact (Kd.C_below HR0.out HB.out) | (with_reducible refine Kd.C_alloc ?_ _) | (with_reducible refine Kd.C_drewN ?_ _) | (with_reducible refine Kd.C_drew ?_))); (case side2 => exact HC0.out); rintro e w10 ⟨rfl, hb⟩; have n0_ := Aside0.mk (below_step (by repeat (first | (with_reducible first | exact HB.out | apply below_alloc | apply pw_below_drewN | apply below_drew1) | exact HB.out)) hb); clear HB; have HB := n0_; clear n0_; (try clear hb); (try clear hb2); (try clear hk); (try clear hi)) | (go_at_call 35; (with_reducible refine (known_BuildOf.calls k _ _ l0 t132 t133 _ ?side1 ?side2 A6.out).mono ?_); (case side1 => repeat (first | exact (Kd.C_below HR0.out HB.out) | (with_reducible refine Kd.C_alloc ?_ _) | (with_reducible refine Kd.C_drewN ?_ _) | (with_reducible refine Kd.C_drew ?_))); (case side2 => exact HC0.out); rintro e w11 ⟨rfl, hb⟩; have n0_ := Aside0.mk (below_step (by repeat (first | (with_reducible first | exact HB.out | apply below_alloc | apply pw_below_drewN | apply below_drew1) | exact HB.out)) hb); clear HB; have HB := n0_; clear n0_; (try clear hb); (try clear hb2); (try clear hk); (try clear hi)) | (go_at_call 36; (with_reducible refine (polyglotlaw07_first.calls k _ _ l0 32 t134 _ ?side1 ?side2 A7.out).mono ?_); (case side1 => repeat (first | exact (Kd.C_below HR0.out HB.out) | (with_reducible refine Kd.C_alloc ?_ _) | (with_reducible refine Kd.C_drewN ?_ _) | (with_reducible refine Kd.C_drew ?_))); (case side2 => exact HC0.out); rintro e w' ⟨rfl, ⟨nd, rfl⟩⟩; (try first | exact ⟨rfl, _, World.drewN_drewN _ _ _⟩ | exact ⟨rfl, _, Eq.trans (World.drewN_drewN _ _ _) (congrArg (World.drewN _) (Nat.add_assoc _ _ _))⟩))); go_upto_region 7 with (first | (go_at_call 21; (with_reducible refine (polyglotlaw06_Few.calls k _ _ l0 true _ ?side1 ?side2 A2.out).mono ?_); (case side1 => repeat (first | exact HR0.out | (with_reducible refine Kd.C_alloc ?_ _) | (with_reducible refine Kd.C_drewN ?_ _) | (with_reducible refine Kd.C_drew ?_))); (case side2 => exact HC0.out); rintro e w' ⟨rfl, ⟨nd, rfl⟩⟩; (try first | exact ⟨rfl, _, World.drewN_drewN _ _ _⟩ | exact ⟨rfl, _, Eq.trans (World.drewN_drewN _ _ _) (congrArg (World.drewN _) (Nat.add_assoc _ _ _))⟩)) | (go_at_call 33; (with_reducible refine (known_ZoneOf.calls k _ _ l0 t128 t129 _ ?side1 ?side2 A4.out).mono ?_); (case side1 => repeat (first | exact HR0.out | (with_reducible refine Kd.C_alloc ?_ _) | (with_reducible refine Kd.C_drewN ?_ _) | (with_reducible refine Kd.C_drew ?_))); (case side2 => exact HC0.out); rintro e w9 ⟨rfl, hb⟩; have n0_ := Aside0.mk (below_step (by repeat (first | (with_reducible first | exact HB.out | apply below_alloc | apply pw_below_drewN | apply below_drew1) | exact HB.out)) hb); clear HB; have HB := n0_; clear n0_; (try clear hb); (try clear hb2); (try clear hk); (try clear hi)) | (go_at_call 34; (with_reducible refine (known_LoadOf.calls k _ _ l0 t130 t131 _ ?side1 ?side2 A5.out).mono ?_); (case side1 => repeat (first | exact (Kd.C_below HR0.out HB.out) | (with_reducible refine Kd.C_alloc ?_ _) | (with_reducible refine Kd.C_drewN ?_ _) | (with_reducible refine Kd.C_drew ?_))); (case side2 => exact HC0.out); rintro e w10 ⟨rfl, hb⟩; have n0_ := Aside0.mk (below_step (by repeat (first | (with_reducible first | exact HB.out | apply below_alloc | apply pw_below_drewN | apply below_drew1) | exact HB.out)) hb); clear HB; have HB := n0_; clear n0_; (try clear hb); (try clear hb2); (try clear hk); (try clear hi)) | (go_at_call 35; (with_reducible refine (known_BuildOf.calls k _ _ l0 t132 t133 _ ?side1 ?side2 A6.out).mono ?_); (case side1 => repeat (first | exact (Kd.C_below HR0.out HB.out) | (with_reducible refine Kd.C_alloc ?_ _) | (with_reducible refine Kd.C_drewN ?_ _) | (with_reducible refine Kd.C_drew ?_))); (case side2 => exact HC0.out); rintro e w11 ⟨rfl, hb⟩; have n0_ := Aside0.mk (below_step (by repeat (first | (with_reducible first | exact HB.out | apply below_alloc | apply pw_below_drewN | apply below_drew1) | exact HB.out)) hb); clear HB; have HB := n0_; clear n0_; (try clear hb); (try clear hb2); (try clear hk); (try clear hi)) | (go_at_call 36; (with_reducible refine (polyglotlaw07_first.calls k _ _ l0 32 t134 _ ?side1 ?side2 A7.out).mono ?_); (case side1 => repeat (first | exact (Kd.C_below HR0.out HB.out) | (with_reducible refine Kd.C_alloc ?_ _) | (with_reducible refine Kd.C_drewN ?_ _) | (with_reducible refine Kd.C_drew ?_))); (case side2 => exact HC0.out); rintro e w' ⟨rfl, ⟨nd, rfl⟩⟩; (try first | exact ⟨rfl, _, World.drewN_drewN _ _ _⟩ | exact ⟨rfl, _, Eq.trans (World.drewN_drewN _ _ _) (congrArg (World.drewN _) (Nat.add_assoc _ _ _))⟩))))
    (try simp only [Act.put, List.setIfInBounds_toArray, List.set_cons_zero, List.set_cons_succ])
    go_cut [41] (fun v41 wc => ∃ (kq : Nat) (x41_7 : Bool), v41 = .bool x41_7 ∧ Aside0 (polyglotlaw07_KnownReads.j0 kq l0 t128 t129 t130 t131 t132 t133 t134 x41_7 = some r) ∧ Aside0 (kq ≤ k) ∧ Aside0 (Below w.heap.size w wc))
    case first =>
      have H := HC8.out
      clear HC8
      by_cases c12 : t134 ≥ 0
      · rw [if_pos c12] at H
        have c12b0 : decide (0 ≤ t134) = true := decide_eq_true c12
        clear c12
        (first | rw [c12b0] | (simp only [i64_w, i32_w]; rw [c12b0]) | skip)
        by_cases c13 : 0 ≤ t134
        · rw [if_pos c13] at H
          have c13b0 : decide (0 ≤ t134) = true := decide_eq_true c13
          clear c13
          by_cases c14 : t134 < (l0.length : Int)
          · rw [if_pos c14] at H
            have c14b0 : decide (t134 < (l0.length : Int)) = true := decide_eq_true c14
            clear c14
            have H' := Aside0.mk H
            clear H
            have p135 : 0 ≤ (t134 : Int) := of_decide_eq_true (by first | (with_reducible assumption) | assumption)
            have q135 : t134 < (l0.length : Int) := of_decide_eq_true (by first | (with_reducible assumption) | assumption)
            obtain ⟨ad135, A135_1, c135_1, e135, hx135_0, hx135_1, hl135_1, hi135_1⟩ := at_T40 HR0.out t134 p135 q135
            cases e135
            replace hx135_0 := (HB.out.cell (World.block_lt_of_cell? w _ hx135_0)).trans hx135_0
            replace hx135_1 := (HB.out.cell (World.block_lt_of_cell? w _ hx135_1)).trans hx135_1
            have HR135_1 := Aside0.mk hi135_1
            have HC135_1 := Aside0.mk hl135_1
            clear hi135_1 hl135_1
            replace p135 := eq_true p135
            replace q135 := eq_true q135
            go_wp2
            repeat (go_quiet (fail); try go_wp2)
            go_meet
            case rel => exact ⟨_, (((((rd_T40 l0 t134).f1).length : Int) == 1)), (by first | rfl | (simp; done) | (simp [*]; done)), H', ⟨by first | omega | exact Nat.le_refl _⟩, ⟨by repeat (first | (with_reducible first | exact HB.out | apply below_alloc | apply pw_below_drewN | apply below_drew1) | exact HB.out)⟩⟩
          · rw [if_neg c14] at H
            exact absurd H (by simp)
        · rw [if_neg c13] at H
          exact absurd H (by simp)
      · rw [if_neg c12] at H
        have c12b0 : decide (0 ≤ t134) = false := decide_eq_false c12
        clear c12
        (first | rw [c12b0] | (simp only [i64_w, i32_w]; rw [c12b0]) | skip)
        have H' := Aside0.mk H
        clear H
        go_wp2
        repeat (go_quiet (fail); try go_wp2)
        go_meet
        case rel => exact ⟨_, (false), (by first | rfl | (simp; done) | (simp [*]; done)), H', ⟨by first | omega | exact Nat.le_refl _⟩, ⟨by repeat (first | (with_reducible first | exact HB.out | apply below_alloc | apply pw_below_drewN | apply below_drew1) | exact HB.out)⟩⟩
    case rest =>
      clear HC8
      try clear c1
      try clear p1
      try clear q1
      try clear hx1
      try clear p2
      try clear c3
      try clear c6
      try clear c12
      try clear c12b0
      try clear c13
      try clear c13b0
      try clear p13
      try clear q13
      try clear hx13
      try clear c14
      try clear c14b0
      try clear hx135_0
      try clear hx135_1
      try clear p135
      try clear q135
      obtain ⟨kq, x41_7, rfl, HA, HJ7, HB⟩ := hcut
      cases kq with
      | zero => exact absurd HA.out (by simp [polyglotlaw07_KnownReads.j0])
      | succ kj7 =>
        have H := HA.out
        clear HA
        simp only [polyglotlaw07_KnownReads.j0] at H
        have HC15 := Aside0.mk H
        clear H
        go_upto_if 41 with (fail)
        repeat (go_quiet (fail); go_upto_if 41 with (fail))
        go_cut [] (fun wc => ∃ (kq : Nat), Aside0 (polyglotlaw07_KnownReads.j1 kq l0 t130 t131 t132 t133 = some r) ∧ Aside0 (kq ≤ kj7) ∧ Aside0 (Below w.heap.size w wc))
        case first =>
          have H := HC15.out
          clear HC15
          by_cases c16 : x41_7 = true
          · subst c16
            have H1 : (if t129 = true then (if 0 ≤ t134 then (if t134 < (l0.length : Int) then (if 0 < (((rd_T40 l0 t134).f1).length : Int) then (if t128 = (wrap64 (rd ((rd_T40 l0 t134).f1) 0)) then (polyglotlaw07_KnownReads.j1 kj7 l0 t130 t131 t132 t133) else (some false)) else (none)) else (none)) else (none)) else (some false)) = some r := by rw [if_pos rfl] at H; exact H
            clear H
            have H := H1
            clear H1
            by_cases c17 : t129 = true
            · subst c17
              have H1 : (if 0 ≤ t134 then (if t134 < (l0.length : Int) then (if 0 < (((rd_T40 l0 t134).f1).length : Int) then (if t128 = (wrap64 (rd ((rd_T40 l0 t134).f1) 0)) then (polyglotlaw07_KnownReads.j1 kj7 l0 t130 t131 t132 t133) else (some false)) else (none)) else (none)) else (none)) = some r := by rw [if_pos rfl] at H; exact H
              clear H
              have H := H1
              clear H1
              by_cases c18 : 0 ≤ t134
              · rw [if_pos c18] at H
                have c18b0 : decide (0 ≤ t134) = true := decide_eq_true c18
                clear c18
                (first | rw [c18b0] | (simp only [i64_w, i32_w]; rw [c18b0]) | skip)
                by_cases c19 : t134 < (l0.length : Int)
                · rw [if_pos c19] at H
                  have c19b0 : decide (t134 < (l0.length : Int)) = true := decide_eq_true c19
                  clear c19
                  by_cases c20 : 0 < (((rd_T40 l0 t134).f1).length : Int)
                  · rw [if_pos c20] at H
                    have c20b0 : decide (0 < (((rd_T40 l0 t134).f1).length : Int)) = true := decide_eq_true c20
                    have c20b1 : decide (0 < ((rd_T40 l0 t134).f1).length) = true := decide_eq_true (by omega)
                    clear c20
                    by_cases c21 : t128 = (wrap64 (rd ((rd_T40 l0 t134).f1) 0))
                    · rw [if_pos c21] at H
                      have c21b0 : (t128 == (wrap64 (rd ((rd_T40 l0 t134).f1) 0))) = true := beq_iff_eq.mpr c21
                      have c21b1 : (t128 != (wrap64 (rd ((rd_T40 l0 t134).f1) 0))) = false := bne_eq_false_iff_eq.mpr c21
                      clear c21
                      have H' := Aside0.mk H
                      clear H
                      have p136 : 0 ≤ (t134 : Int) := of_decide_eq_true (by first | (with_reducible assumption) | assumption)
                      have q136 : t134 < (l0.length : Int) := of_decide_eq_true (by first | (with_reducible assumption) | assumption)
                      obtain ⟨ad136, A136_1, c136_1, e136, hx136_0, hx136_1, hl136_1, hi136_1⟩ := at_T40 HR0.out t134 p136 q136
                      cases e136
                      replace hx136_0 := (HB.out.cell (World.block_lt_of_cell? w _ hx136_0)).trans hx136_0
                      replace hx136_1 := (HB.out.cell (World.block_lt_of_cell? w _ hx136_1)).trans hx136_1
                      have HR136_1 := Aside0.mk hi136_1
                      have HC136_1 := Aside0.mk hl136_1
                      clear hi136_1 hl136_1
                      replace p136 := eq_true p136
                      replace q136 := eq_true q136
                      have p137 : 0 ≤ (0 : Int) := (by omega)
                      have q137 : 0 < (((rd_T40 l0 t134).f1).length : Int) := of_decide_eq_true (by first | (with_reducible assumption) | assumption)
                      obtain ⟨ad137, e137, hx137_0⟩ := Kd.at_int HR136_1.out 0 p137 q137
                      cases e137
                      have qi137 : (0 < ((rd_T40 l0 t134).f1).length) = True := eq_true (by omega)
                      (try rw [show ((0 : Int)).toNat = 0 from rfl] at hx137_0)
                      (try rw [Addr.add_zero'] at hx137_0)
                      replace hx137_0 := (HB.out.cell (World.block_lt_of_cell? w _ hx137_0)).trans hx137_0
                      replace p137 := eq_true p137
                      replace q137 := eq_true q137
                      go_wp2
                      repeat (go_quiet (fail); try go_wp2)
                      go_meet
                      case rel => exact ⟨_, H', ⟨by have := HJ7.out; first | omega | exact Nat.le_refl _⟩, ⟨by repeat (first | (with_reducible first | exact HB.out | apply below_alloc | apply pw_below_drewN | apply below_drew1) | exact HB.out)⟩⟩
                    · rw [if_neg c21] at H
                      have c21b0 : (t128 == (wrap64 (rd ((rd_T40 l0 t134).f1) 0))) = false := beq_eq_false_iff_ne.mpr c21
                      have c21b1 : (t128 != (wrap64 (rd ((rd_T40 l0 t134).f1) 0))) = true := bne_iff_ne.mpr c21
                      obtain rfl := Option.some.inj H
                      have p136 : 0 ≤ (t134 : Int) := of_decide_eq_true (by first | (with_reducible assumption) | assumption)
                      have q136 : t134 < (l0.length : Int) := of_decide_eq_true (by first | (with_reducible assumption) | assumption)
                      obtain ⟨ad136, A136_1, c136_1, e136, hx136_0, hx136_1, hl136_1, hi136_1⟩ := at_T40 HR0.out t134 p136 q136
                      cases e136
                      replace hx136_0 := (HB.out.cell (World.block_lt_of_cell? w _ hx136_0)).trans hx136_0
                      replace hx136_1 := (HB.out.cell (World.block_lt_of_cell? w _ hx136_1)).trans hx136_1
                      have HR136_1 := Aside0.mk hi136_1
                      have HC136_1 := Aside0.mk hl136_1
                      clear hi136_1 hl136_1
                      replace p136 := eq_true p136
                      replace q136 := eq_true q136
                      have p137 : 0 ≤ (0 : Int) := (by omega)
                      have q137 : 0 < (((rd_T40 l0 t134).f1).length : Int) := of_decide_eq_true (by first | (with_reducible assumption) | assumption)
                      obtain ⟨ad137, e137, hx137_0⟩ := Kd.at_int HR136_1.out 0 p137 q137
                      cases e137
                      have qi137 : (0 < ((rd_T40 l0 t134).f1).length) = True := eq_true (by omega)
                      (try rw [show ((0 : Int)).toNat = 0 from rfl] at hx137_0)
                      (try rw [Addr.add_zero'] at hx137_0)
                      replace hx137_0 := (HB.out.cell (World.block_lt_of_cell? w _ hx137_0)).trans hx137_0
                      replace p137 := eq_true p137
                      replace q137 := eq_true q137
                      go_wp2
                      repeat (go_quiet (fail); try go_wp2)
                      go_ret
                      exact ⟨by first | rfl | (simp [errW_none, errW_some] <;> rfl) | (simp [*, errW_none, errW_some] <;> rfl), by repeat (first | (with_reducible first | exact HB.out | apply below_alloc | apply pw_below_drewN | apply below_drew1) | exact HB.out)⟩
                  · rw [if_neg c20] at H
                    exact absurd H (by simp)
                · rw [if_neg c19] at H
                  exact absurd H (by simp)
              · rw [if_neg c18] at H
                exact absurd H (by simp)
            · replace c17 := Bool.eq_false_iff.mpr c17
              subst c17
              have H1 : (some false) = some r := by rw [if_neg (show ¬ (false = true) by decide)] at H; exact H
              clear H
              have H := H1
              clear H1
              obtain rfl := Option.some.inj H
              go_wp2
              repeat (go_quiet (fail); try go_wp2)
              go_ret
              exact ⟨by first | rfl | (simp [errW_none, errW_some] <;> rfl) | (simp [*, errW_none, errW_some] <;> rfl), by repeat (first | (with_reducible first | exact HB.out | apply below_alloc | apply pw_below_drewN | apply below_drew1) | exact HB.out)⟩
          · replace c16 := Bool.eq_false_iff.mpr c16
            subst c16
            have H1 : (if t129 = true then (some false) else (if t128 = 0 then (polyglotlaw07_KnownReads.j1 kj7 l0 t130 t131 t132 t133) else (some false))) = some r := by rw [if_neg (show ¬ (false = true) by decide)] at H; exact H
            clear H
            have H := H1
            clear H1
            by_cases c22 : t129 = true
            · subst c22
              have H1 : (some false) = some r := by rw [if_pos rfl] at H; exact H
              clear H
              have H := H1
              clear H1
              obtain rfl := Option.some.inj H
              go_wp2
              repeat (go_quiet (fail); try go_wp2)
              go_ret
              exact ⟨by first | rfl | (simp [errW_none, errW_some] <;> rfl) | (simp [*, errW_none, errW_some] <;> rfl), by repeat (first | (with_reducible first | exact HB.out | apply below_alloc | apply pw_below_drewN | apply below_drew1) | exact HB.out)⟩
            · replace c22 := Bool.eq_false_iff.mpr c22
              subst c22
              have H1 : (if t128 = 0 then (polyglotlaw07_KnownReads.j1 kj7 l0 t130 t131 t132 t133) else (some false)) = some r := by rw [if_neg (show ¬ (false = true) by decide)] at H; exact H
              clear H
              have H := H1
              clear H1
              by_cases c23 : t128 = 0
              · rw [if_pos c23] at H
                have c23b0 : (t128 == 0) = true := beq_iff_eq.mpr c23
                have c23b1 : (t128 != 0) = false := bne_eq_false_iff_eq.mpr c23
                clear c23
                have H' := Aside0.mk H
                clear H
                go_wp2
                repeat (go_quiet (fail); try go_wp2)
                go_meet
                case rel => exact ⟨_, H', ⟨by have := HJ7.out; first | omega | exact Nat.le_refl _⟩, ⟨by repeat (first | (with_reducible first | exact HB.out | apply below_alloc | apply pw_below_drewN | apply below_drew1) | exact HB.out)⟩⟩
              · rw [if_neg c23] at H
                have c23b0 : (t128 == 0) = false := beq_eq_false_iff_ne.mpr c23
                have c23b1 : (t128 != 0) = true := bne_iff_ne.mpr c23
                obtain rfl := Option.some.inj H
                go_wp2
                repeat (go_quiet (fail); try go_wp2)
                go_ret
                exact ⟨by first | rfl | (simp [errW_none, errW_some] <;> rfl) | (simp [*, errW_none, errW_some] <;> rfl), by repeat (first | (with_reducible first | exact HB.out | apply below_alloc | apply pw_below_drewN | apply below_drew1) | exact HB.out)⟩
        case rest =>
          clear HC15
          try clear c1
          try clear p1
          try clear q1
          try clear hx1
          try clear qi1
          try clear c2
          try clear p2
          try clear c3
          try clear c6
          try clear p6
          try clear c12
          try clear c12b0
          try clear c13
          try clear c13b0
          try clear p13
          try clear q13
          try clear hx13
          try clear qi13
          try clear c14
          try clear c14b0
          try clear c16
          try clear c17
          try clear c18
          try clear c18b0
          try clear c19
          try clear c19b0
          try clear c20
          try clear c20b0
          try clear c20b1
          try clear c21
          try clear c21b0
          try clear c21b1
          try clear c22
          try clear c23
          try clear c23b0
          try clear c23b1
          try clear hx135_0
          try clear hx135_1
          try clear hx136_0
          try clear hx136_1
          try clear hx137_0
          try clear p1
          try clear p13
          try clear p135
          try clear p136
          try clear p137
          try clear p2
          try clear q1
          try clear q13
          try clear q135
          try clear q136
          try clear q137
          obtain ⟨kq, HA, HJ14, HB⟩ := hcut
          cases kq with
          | zero => exact absurd HA.out (by simp [polyglotlaw07_KnownReads.j1])
          | succ kj14 =>
            have H := HA.out
            clear HA
            simp only [polyglotlaw07_KnownReads.j1] at H
            replace H := Option.bind_eq_some_iff.mp H
            obtain ⟨t138, A240, H⟩ := H
            replace H : (if t138 ≥ 0 then (if 0 ≤ t138 then (if t138 < (l0.length : Int) then (polyglotlaw07_KnownReads.j2 kj14 l0 t130 t131 t132 t133 t138 ((((rd_T40 l0 t138).f1).length : Int) == 2)) else (none)) else (none)) else (polyglotlaw07_KnownReads.j2 kj14 l0 t130 t131 t132 t133 t138 false)) = some r := H
            have A24 := Aside0.mk A240
            clear A240
            have HC25 := Aside0.mk H
            clear H
            go_upto_region 13 with (first | (go_at_call 36; (with_reducible refine (polyglotlaw07_first.calls kj14 _ _ l0 33 t138 _ ?side1 ?side2 A24.out).mono ?_); (case side1 => repeat (first | exact (Kd.C_below HR0.out HB.out) | (with_reducible refine Kd.C_alloc ?_ _) | (with_reducible refine Kd.C_drewN ?_ _) | (with_reducible refine Kd.C_drew ?_))); (case side2 => exact HC0.out); rintro e w' ⟨rfl, ⟨nd, rfl⟩⟩; (try first | exact ⟨rfl, _, World.drewN_drewN _ _ _⟩ | exact ⟨rfl, _, Eq.trans (World.drewN_drewN _ _ _) (congrArg (World.drewN _) (Nat.add_assoc _ _ _))⟩)))
            repeat (go_quiet (first | (go_at_call 36; (with_reducible refine (polyglotlaw07_first.calls kj14 _ _ l0 33 t138 _ ?side1 ?side2 A24.out).mono ?_); (case side1 => repeat (first | exact (Kd.C_below HR0.out HB.out) | (with_reducible refine Kd.C_alloc ?_ _) | (with_reducible refine Kd.C_drewN ?_ _) | (with_reducible refine Kd.C_drew ?_))); (case side2 => exact HC0.out); rintro e w' ⟨rfl, ⟨nd, rfl⟩⟩; (try first | exact ⟨rfl, _, World.drewN_drewN _ _ _⟩ | exact ⟨rfl, _, Eq.trans (World.drewN_drewN _ _ _) (congrArg (World.drewN _) (Nat.add_assoc _ _ _))⟩))); go_upto_region 13 with (first | (go_at_call 36; (with_reducible refine (polyglotlaw07_first.calls kj14 _ _ l0 33 t138 _ ?side1 ?side2 A24.out).mono ?_); (case side1 => repeat (first | exact (Kd.C_below HR0.out HB.out) | (with_reducible refine Kd.C_alloc ?_ _) | (with_reducible refine Kd.C_drewN ?_ _) | (with_reducible refine Kd.C_drew ?_))); (case side2 => exact HC0.out); rintro e w' ⟨rfl, ⟨nd, rfl⟩⟩; (try first | exact ⟨rfl, _, World.drewN_drewN _ _ _⟩ | exact ⟨rfl, _, Eq.trans (World.drewN_drewN _ _ _) (congrArg (World.drewN _) (Nat.add_assoc _ _ _))⟩))))
            (try simp only [Act.put, List.setIfInBounds_toArray, List.set_cons_zero, List.set_cons_succ])
            go_cut [73] (fun v73 wc => ∃ (kq : Nat) (x73_24 : Bool), v73 = .bool x73_24 ∧ Aside0 (polyglotlaw07_KnownReads.j2 kq l0 t130 t131 t132 t133 t138 x73_24 = some r) ∧ Aside0 (kq ≤ kj14) ∧ Aside0 (Below w.heap.size w wc))
            case first =>
              have H := HC25.out
              clear HC25
              by_cases c26 : t138 ≥ 0
              · rw [if_pos c26] at H
                have c26b0 : decide (0 ≤ t138) = true := decide_eq_true c26
                clear c26
                (first | rw [c26b0] | (simp only [i64_w, i32_w]; rw [c26b0]) | skip)
                by_cases c27 : 0 ≤ t138
                · rw [if_pos c27] at H
                  have c27b0 : decide (0 ≤ t138) = true := decide_eq_true c27
                  clear c27
                  by_cases c28 : t138 < (l0.length : Int)
                  · rw [if_pos c28] at H
                    have c28b0 : decide (t138 < (l0.length : Int)) = true := decide_eq_true c28
                    clear c28
                    have H' := Aside0.mk H
                    clear H
                    have p139 : 0 ≤ (t138 : Int) := of_decide_eq_true (by first | (with_reducible assumption) | assumption)
                    have q139 : t138 < (l0.length : Int) := of_decide_eq_true (by first | (with_reducible assumption) | assumption)
                    obtain ⟨ad139, A139_1, c139_1, e139, hx139_0, hx139_1, hl139_1, hi139_1⟩ := at_T40 HR0.out t138 p139 q139
                    cases e139
                    replace hx139_0 := (HB.out.cell (World.block_lt_of_cell? w _ hx139_0)).trans hx139_0
                    replace hx139_1 := (HB.out.cell (World.block_lt_of_cell? w _ hx139_1)).trans hx139_1
                    have HR139_1 := Aside0.mk hi139_1
                    have HC139_1 := Aside0.mk hl139_1
                    clear hi139_1 hl139_1
                    replace p139 := eq_true p139
                    replace q139 := eq_true q139
                    go_wp2
                    repeat (go_quiet (fail); try go_wp2)
                    go_meet
                    case rel => exact ⟨_, (((((rd_T40 l0 t138).f1).length : Int) == 2)), (by first | rfl | (simp; done) | (simp [*]; done)), H', ⟨by have := HJ7.out; have := HJ14.out; first | omega | exact Nat.le_refl _⟩, ⟨by repeat (first | (with_reducible first | exact HB.out | apply below_alloc | apply pw_below_drewN | apply below_drew1) | exact HB.out)⟩⟩
                  · rw [if_neg c28] at H
                    exact absurd H (by simp)
                · rw [if_neg c27] at H
                  exact absurd H (by simp)
              · rw [if_neg c26] at H
                have c26b0 : decide (0 ≤ t138) = false := decide_eq_false c26
                clear c26
                (first | rw [c26b0] | (simp only [i64_w, i32_w]; rw [c26b0]) | skip)
                have H' := Aside0.mk H
                clear H
                go_wp2
                repeat (go_quiet (fail); try go_wp2)
                go_meet
                case rel => exact ⟨_, (false), (by first | rfl | (simp; done) | (simp [*]; done)), H', ⟨by have := HJ7.out; have := HJ14.out; first | omega | exact Nat.le_refl _⟩, ⟨by repeat (first | (with_reducible first | exact HB.out | apply below_alloc | apply pw_below_drewN | apply below_drew1) | exact HB.out)⟩⟩
            case rest =>
              clear HC25
              try clear c1
              try clear p1
              try clear q1
              try clear hx1
              try clear qi1
              try clear c2
              try clear p2
              try clear c3
              try clear c6
              try clear p6
              try clear c12
              try clear c12b0
              try clear c13
              try clear c13b0
              try clear p13
              try clear q13
              try clear hx13
              try clear qi13
              try clear c14
              try clear c14b0
              try clear c16
              try clear c17
              try clear c18
              try clear c18b0
              try clear c19
              try clear c19b0
              try clear c20
              try clear c20b0
              try clear c20b1
              try clear c21
              try clear c21b0
              try clear c21b1
              try clear c22
              try clear c23
              try clear c23b0
              try clear c23b1
              try clear c26
              try clear c26b0
              try clear c27
              try clear c27b0
              try clear c28
              try clear c28b0
              try clear hx135_0
              try clear hx135_1
              try clear hx136_0
              try clear hx136_1
              try clear hx137_0
              try clear hx139_0
              try clear hx139_1
              try clear p1
              try clear p13
              try clear p135
              try clear p136
              try clear p137
              try clear p139
              try clear p2
              try clear p6
              try clear q1
              try clear q13
              try clear q135
              try clear q136
              try clear q137
              try clear q139
              obtain ⟨kq, x73_24, rfl, HA, HJ24, HB⟩ := hcut
              cases kq with
              | zero => exact absurd HA.out (by simp [polyglotlaw07_KnownReads.j2])
              | succ kj24 =>
                have H := HA.out
                clear HA
                simp only [polyglotlaw07_KnownReads.j2] at H
                have HC29 := Aside0.mk H
                clear H
                go_upto_if 73 with (fail)
                repeat (go_quiet (fail); go_upto_if 73 with (fail))
                go_cut [] (fun wc => ∃ (kq : Nat), Aside0 (polyglotlaw07_KnownReads.j3 kq l0 t132 t133 = some r) ∧ Aside0 (kq ≤ kj24) ∧ Aside0 (Below w.heap.size w wc))
                case first =>
                  have H := HC29.out
                  clear HC29
                  by_cases c30 : x73_24 = true
                  · subst c30
                    have H1 : (if t131 = true then (if 0 ≤ t138 then (if t138 < (l0.length : Int) then (if 0 < (((rd_T40 l0 t138).f1).length : Int) then (if 1 < (((rd_T40 l0 t138).f1).length : Int) then (if t130 = (wrap64 ((wrap64 ((wrap64 (rd ((rd_T40 l0 t138).f1) 0)) * 256)) + (wrap64 (rd ((rd_T40 l0 t138).f1) 1)))) then (polyglotlaw07_KnownReads.j3 kj24 l0 t132 t133) else (some false)) else (none)) else (none)) else (none)) else (none)) else (some false)) = some r := by rw [if_pos rfl] at H; exact H
                    clear H
                    have H := H1
                    clear H1
                    by_cases c31 : t131 = true
                    · subst c31
                      have H1 : (if 0 ≤ t138 then (if t138 < (l0.length : Int) then (if 0 < (((rd_T40 l0 t138).f1).length : Int) then (if 1 < (((rd_T40 l0 t138).f1).length : Int) then (if t130 = (wrap64 ((wrap64 ((wrap64 (rd ((rd_T40 l0 t138).f1) 0)) * 256)) + (wrap64 (rd ((rd_T40 l0 t138).f1) 1)))) then (polyglotlaw07_KnownReads.j3 kj24 l0 t132 t133) else (some false)) else (none)) else (none)) else (none)) else (none)) = some r := by rw [if_pos rfl] at H; exact H
                      clear H
                      have H := H1
                      clear H1
                      by_cases c32 : 0 ≤ t138
                      · rw [if_pos c32] at H
                        have c32b0 : decide (0 ≤ t138) = true := decide_eq_true c32
                        clear c32
                        (first | rw [c32b0] | (simp only [i64_w, i32_w]; rw [c32b0]) | skip)
                        by_cases c33 : t138 < (l0.length : Int)
                        · rw [if_pos c33] at H
                          have c33b0 : decide (t138 < (l0.length : Int)) = true := decide_eq_true c33
                          clear c33
                          by_cases c34 : 0 < (((rd_T40 l0 t138).f1).length : Int)
                          · rw [if_pos c34] at H
                            have c34b0 : decide (0 < (((rd_T40 l0 t138).f1).length : Int)) = true := decide_eq_true c34
                            have c34b1 : decide (0 < ((rd_T40 l0 t138).f1).length) = true := decide_eq_true (by omega)
                            clear c34
                            by_cases c35 : 1 < (((rd_T40 l0 t138).f1).length : Int)
                            · rw [if_pos c35] at H
                              have c35b0 : decide (1 < (((rd_T40 l0 t138).f1).length : Int)) = true := decide_eq_true c35
                              have c35b1 : decide (1 < ((rd_T40 l0 t138).f1).length) = true := decide_eq_true (by omega)
                              clear c35
                              by_cases c36 : t130 = (wrap64 ((wrap64 ((wrap64 (rd ((rd_T40 l0 t138).f1) 0)) * 256)) + (wrap64 (rd ((rd_T40 l0 t138).f1) 1))))
                              · rw [if_pos c36] at H
                                have c36b0 : (t130 == (wrap64 ((wrap64 ((wrap64 (rd ((rd_T40 l0 t138).f1) 0)) * 256)) + (wrap64 (rd ((rd_T40 l0 t138).f1) 1))))) = true := beq_iff_eq.mpr c36
                                have c36b1 : (t130 != (wrap64 ((wrap64 ((wrap64 (rd ((rd_T40 l0 t138).f1) 0)) * 256)) + (wrap64 (rd ((rd_T40 l0 t138).f1) 1))))) = false := bne_eq_false_iff_eq.mpr c36
                                clear c36
                                have H' := Aside0.mk H
                                clear H
                                have p140 : 0 ≤ (t138 : Int) := of_decide_eq_true (by first | (with_reducible assumption) | assumption)
                                have q140 : t138 < (l0.length : Int) := of_decide_eq_true (by first | (with_reducible assumption) | assumption)
                                obtain ⟨ad140, A140_1, c140_1, e140, hx140_0, hx140_1, hl140_1, hi140_1⟩ := at_T40 HR0.out t138 p140 q140
                                cases e140
                                replace hx140_0 := (HB.out.cell (World.block_lt_of_cell? w _ hx140_0)).trans hx140_0
                                replace hx140_1 := (HB.out.cell (World.block_lt_of_cell? w _ hx140_1)).trans hx140_1
                                have HR140_1 := Aside0.mk hi140_1
                                have HC140_1 := Aside0.mk hl140_1
                                clear hi140_1 hl140_1
                                replace p140 := eq_true p140
                                replace q140 := eq_true q140
                                have p141 : 0 ≤ (0 : Int) := (by omega)
                                have q141 : 0 < (((rd_T40 l0 t138).f1).length : Int) := of_decide_eq_true (by first | (with_reducible assumption) | assumption)
                                obtain ⟨ad141, e141, hx141_0⟩ := Kd.at_int HR140_1.out 0 p141 q141
                                cases e141
                                have qi141 : (0 < ((rd_T40 l0 t138).f1).length) = True := eq_true (by omega)
                                (try rw [show ((0 : Int)).toNat = 0 from rfl] at hx141_0)
                                (try rw [Addr.add_zero'] at hx141_0)
                                replace hx141_0 := (HB.out.cell (World.block_lt_of_cell? w _ hx141_0)).trans hx141_0
                                replace p141 := eq_true p141
                                replace q141 := eq_true q141
                                have p142 : 0 ≤ (t138 : Int) := of_decide_eq_true (by first | (with_reducible assumption) | assumption)
                                have q142 : t138 < (l0.length : Int) := of_decide_eq_true (by first | (with_reducible assumption) | assumption)
                                obtain ⟨ad142, A142_1, c142_1, e142, hx142_0, hx142_1, hl142_1, hi142_1⟩ := at_T40 HR0.out t138 p142 q142
                                obtain rfl : ad140 = ad142 := (by injection e142)
                                replace hx142_0 := (HB.out.cell (World.block_lt_of_cell? w _ hx142_0)).trans hx142_0
                                replace hx142_1 := (HB.out.cell (World.block_lt_of_cell? w _ hx142_1)).trans hx142_1
                                have HR142_1 := Aside0.mk hi142_1
                                have HC142_1 := Aside0.mk hl142_1
                                clear hi142_1 hl142_1
                                replace p142 := eq_true p142
                                replace q142 := eq_true q142
                                have ea_ := Option.some.inj (hx140_1.symm.trans hx142_1)
                                injection ea_ with ea_ en_ ec_
                                subst ea_
                                subst ec_
                                clear en_
                                have p143 : 0 ≤ (1 : Int) := (by omega)
                                have q143 : 1 < (((rd_T40 l0 t138).f1).length : Int) := of_decide_eq_true (by first | (with_reducible assumption) | assumption)
                                obtain ⟨ad143, e143, hx143_0⟩ := Kd.at_int HR142_1.out 1 p143 q143
                                cases e143
                                (try simp only [show (1 : Int).toNat = 1 from rfl, Nat.reduceMul, Nat.reduceEqDiff, Go.Addr.add, ↓reduceIte] at hx143_0)
                                have qi143 : (1 < ((rd_T40 l0 t138).f1).length) = True := eq_true (by omega)
                                (try rw [show ((1 : Int)).toNat = 1 from rfl] at hx143_0)
                                replace hx143_0 := (HB.out.cell (World.block_lt_of_cell? w _ hx143_0)).trans hx143_0
                                replace p143 := eq_true p143
                                replace q143 := eq_true q143
                                go_wp2
                                repeat (go_quiet (fail); try go_wp2)
                                go_meet
                                case rel => exact ⟨_, H', ⟨by have := HJ7.out; have := HJ14.out; have := HJ24.out; first | omega | exact Nat.le_refl _⟩, ⟨by repeat (first | (with_reducible first | exact HB.out | apply below_alloc | apply pw_below_drewN | apply below_drew1) | exact HB.out)⟩⟩
                              · rw [if_neg c36] at H
                                have c36b0 : (t130 == (wrap64 ((wrap64 ((wrap64 (rd ((rd_T40 l0 t138).f1) 0)) * 256)) + (wrap64 (rd ((rd_T40 l0 t138).f1) 1))))) = false := beq_eq_false_iff_ne.mpr c36
                                have c36b1 : (t130 != (wrap64 ((wrap64 ((wrap64 (rd ((rd_T40 l0 t138).f1) 0)) * 256)) + (wrap64 (rd ((rd_T40 l0 t138).f1) 1))))) = true := bne_iff_ne.mpr c36
                                obtain rfl := Option.some.inj H
                                have p140 : 0 ≤ (t138 : Int) := of_decide_eq_true (by first | (with_reducible assumption) | assumption)
                                have q140 : t138 < (l0.length : Int) := of_decide_eq_true (by first | (with_reducible assumption) | assumption)
                                obtain ⟨ad140, A140_1, c140_1, e140, hx140_0, hx140_1, hl140_1, hi140_1⟩ := at_T40 HR0.out t138 p140 q140
                                cases e140
                                replace hx140_0 := (HB.out.cell (World.block_lt_of_cell? w _ hx140_0)).trans hx140_0
                                replace hx140_1 := (HB.out.cell (World.block_lt_of_cell? w _ hx140_1)).trans hx140_1
                                have HR140_1 := Aside0.mk hi140_1
                                have HC140_1 := Aside0.mk hl140_1
                                clear hi140_1 hl140_1
                                replace p140 := eq_true p140
                                replace q140 := eq_true q140
                                have p141 : 0 ≤ (0 : Int) := (by omega)
                                have q141 : 0 < (((rd_T40 l0 t138).f1).length : Int) := of_decide_eq_true (by first | (with_reducible assumption) | assumption)
                                obtain ⟨ad141, e141, hx141_0⟩ := Kd.at_int HR140_1.out 0 p141 q141
                                cases e141
                                have qi141 : (0 < ((rd_T40 l0 t138).f1).length) = True := eq_true (by omega)
                                (try rw [show ((0 : Int)).toNat = 0 from rfl] at hx141_0)
                                (try rw [Addr.add_zero'] at hx141_0)
                                replace hx141_0 := (HB.out.cell (World.block_lt_of_cell? w _ hx141_0)).trans hx141_0
                                replace p141 := eq_true p141
                                replace q141 := eq_true q141
                                have p142 : 0 ≤ (t138 : Int) := of_decide_eq_true (by first | (with_reducible assumption) | assumption)
                                have q142 : t138 < (l0.length : Int) := of_decide_eq_true (by first | (with_reducible assumption) | assumption)
                                obtain ⟨ad142, A142_1, c142_1, e142, hx142_0, hx142_1, hl142_1, hi142_1⟩ := at_T40 HR0.out t138 p142 q142
                                obtain rfl : ad140 = ad142 := (by injection e142)
                                replace hx142_0 := (HB.out.cell (World.block_lt_of_cell? w _ hx142_0)).trans hx142_0
                                replace hx142_1 := (HB.out.cell (World.block_lt_of_cell? w _ hx142_1)).trans hx142_1
                                have HR142_1 := Aside0.mk hi142_1
                                have HC142_1 := Aside0.mk hl142_1
                                clear hi142_1 hl142_1
                                replace p142 := eq_true p142
                                replace q142 := eq_true q142
                                have ea_ := Option.some.inj (hx140_1.symm.trans hx142_1)
                                injection ea_ with ea_ en_ ec_
                                subst ea_
                                subst ec_
                                clear en_
                                have p143 : 0 ≤ (1 : Int) := (by omega)
                                have q143 : 1 < (((rd_T40 l0 t138).f1).length : Int) := of_decide_eq_true (by first | (with_reducible assumption) | assumption)
                                obtain ⟨ad143, e143, hx143_0⟩ := Kd.at_int HR142_1.out 1 p143 q143
                                cases e143
                                (try simp only [show (1 : Int).toNat = 1 from rfl, Nat.reduceMul, Nat.reduceEqDiff, Go.Addr.add, ↓reduceIte] at hx143_0)
                                have qi143 : (1 < ((rd_T40 l0 t138).f1).length) = True := eq_true (by omega)
                                (try rw [show ((1 : Int)).toNat = 1 from rfl] at hx143_0)
                                replace hx143_0 := (HB.out.cell (World.block_lt_of_cell? w _ hx143_0)).trans hx143_0
                                replace p143 := eq_true p143
                                replace q143 := eq_true q143
                                go_wp2
                                repeat (go_quiet (fail); try go_wp2)
                                go_ret
                                exact ⟨by first | rfl | (simp [errW_none, errW_some] <;> rfl) | (simp [*, errW_none, errW_some] <;> rfl), by repeat (first | (with_reducible first | exact HB.out | apply below_alloc | apply pw_below_drewN | apply below_drew1) | exact HB.out)⟩
                            · rw [if_neg c35] at H
                              exact absurd H (by simp)
                          · rw [if_neg c34] at H
                            exact absurd H (by simp)
                        · rw [if_neg c33] at H
                          exact absurd H (by simp)
                      · rw [if_neg c32] at H
                        exact absurd H (by simp)
                    · replace c31 := Bool.eq_false_iff.mpr c31
                      subst c31
                      have H1 : (some false) = some r := by rw [if_neg (show ¬ (false = true) by decide)] at H; exact H
                      clear H
                      have H := H1
                      clear H1
                      obtain rfl := Option.some.inj H
                      go_wp2
                      repeat (go_quiet (fail); try go_wp2)
                      go_ret
                      exact ⟨by first | rfl | (simp [errW_none, errW_some] <;> rfl) | (simp [*, errW_none, errW_some] <;> rfl), by repeat (first | (with_reducible first | exact HB.out | apply below_alloc | apply pw_below_drewN | apply below_drew1) | exact HB.out)⟩
                  · replace c30 := Bool.eq_false_iff.mpr c30
                    subst c30
                    have H1 : (if t131 = true then (some false) else (if t130 = 0 then (polyglotlaw07_KnownReads.j3 kj24 l0 t132 t133) else (some false))) = some r := by rw [if_neg (show ¬ (false = true) by decide)] at H; exact H
                    clear H
                    have H := H1
                    clear H1
                    by_cases c37 : t131 = true
                    · subst c37
                      have H1 : (some false) = some r := by rw [if_pos rfl] at H; exact H
                      clear H
                      have H := H1
                      clear H1
                      obtain rfl := Option.some.inj H
                      go_wp2
                      repeat (go_quiet (fail); try go_wp2)
                      go_ret
                      exact ⟨by first | rfl | (simp [errW_none, errW_some] <;> rfl) | (simp [*, errW_none, errW_some] <;> rfl), by repeat (first | (with_reducible first | exact HB.out | apply below_alloc | apply pw_below_drewN | apply below_drew1) | exact HB.out)⟩
                    · replace c37 := Bool.eq_false_iff.mpr c37
                      subst c37
                      have H1 : (if t130 = 0 then (polyglotlaw07_KnownReads.j3 kj24 l0 t132 t133) else (some false)) = some r := by rw [if_neg (show ¬ (false = true) by decide)] at H; exact H
                      clear H
                      have H := H1
                      clear H1
                      by_cases c38 : t130 = 0
                      · rw [if_pos c38] at H
                        have c38b0 : (t130 == 0) = true := beq_iff_eq.mpr c38
                        have c38b1 : (t130 != 0) = false := bne_eq_false_iff_eq.mpr c38
                        clear c38
                        have H' := Aside0.mk H
                        clear H
                        go_wp2
                        repeat (go_quiet (fail); try go_wp2)
                        go_meet
                        case rel => exact ⟨_, H', ⟨by have := HJ7.out; have := HJ14.out; have := HJ24.out; first | omega | exact Nat.le_refl _⟩, ⟨by repeat (first | (with_reducible first | exact HB.out | apply below_alloc | apply pw_below_drewN | apply below_drew1) | exact HB.out)⟩⟩
                      · rw [if_neg c38] at H
                        have c38b0 : (t130 == 0) = false := beq_eq_false_iff_ne.mpr c38
                        have c38b1 : (t130 != 0) = true := bne_iff_ne.mpr c38
                        obtain rfl := Option.some.inj H
                        go_wp2
                        repeat (go_quiet (fail); try go_wp2)
                        go_ret
                        exact ⟨by first | rfl | (simp [errW_none, errW_some] <;> rfl) | (simp [*, errW_none, errW_some] <;> rfl), by repeat (first | (with_reducible first | exact HB.out | apply below_alloc | apply pw_below_drewN | apply below_drew1) | exact HB.out)⟩
                case rest =>
                  clear HC29
                  try clear c1
                  try clear p1
                  try clear q1
                  try clear hx1
                  try clear qi1
                  try clear c2
                  try clear p2
                  try clear c3
                  try clear c6
                  try clear p6
                  try clear c12
                  try clear c12b0
                  try clear c13
                  try clear c13b0
                  try clear p13
                  try clear q13
                  try clear hx13
                  try clear qi13
                  try clear c14
                  try clear c14b0
                  try clear p14
                  try clear q14
                  try clear hx14
                  try clear qi14
                  try clear c16
                  try clear c17
                  try clear c18
                  try clear c18b0
                  try clear c19
                  try clear c19b0
                  try clear c20
                  try clear c20b0
                  try clear c20b1
                  try clear c21
                  try clear c21b0
                  try clear c21b1
                  try clear c22
                  try clear c23
                  try clear c23b0
                  try clear c23b1
                  try clear c26
                  try clear c26b0
                  try clear c27
                  try clear c27b0
                  try clear c28
                  try clear c28b0
                  try clear c30
                  try clear c31
                  try clear c32
                  try clear c32b0
                  try clear c33
                  try clear c33b0
                  try clear c34
                  try clear c34b0
                  try clear c34b1
                  try clear c35
                  try clear c35b0
                  try clear c35b1
                  try clear c36
                  try clear c36b0
                  try clear c36b1
                  try clear c37
                  try clear c38
                  try clear c38b0
                  try clear c38b1
                  try clear hx135_0
                  try clear hx135_1
                  try clear hx136_0
                  try clear hx136_1
                  try clear hx137_0
                  try clear hx139_0
                  try clear hx139_1
                  try clear hx140_0
                  try clear hx140_1
                  try clear hx141_0
                  try clear hx142_0
                  try clear hx142_1
                  try clear hx143_0
                  try clear p1
                  try clear p13
                  try clear p135
                  try clear p136
                  try clear p137
                  try clear p139
                  try clear p140
                  try clear p141
                  try clear p142
                  try clear p143
                  try clear p2
                  try clear p6
                  try clear q1
                  try clear q13
                  try clear q135
                  try clear q136
                  try clear q137
                  try clear q139
                  try clear q140
                  try clear q141
                  try clear q142
                  try clear q143
                  obtain ⟨kq, HA, HJ28, HB⟩ := hcut
                  cases kq with
                  | zero => exact absurd HA.out (by simp [polyglotlaw07_KnownReads.j3])
                  | succ kj28 =>
                    have H := HA.out
                    clear HA
                    simp only [polyglotlaw07_KnownReads.j3] at H
                    replace H := Option.bind_eq_some_iff.mp H
                    obtain ⟨t144, A390, H⟩ := H
                    replace H : (if t144 ≥ 0 then (if 0 ≤ t144 then (if t144 < (l0.length : Int) then (if (((rd_T40 l0 t144).f1).length : Int) > 0 then ((polyglotlaw07_plain.f kj28 (strOfNums ((rd_T40 l0 t144).f1))).bind fun t147 => (polyglotlaw07_KnownReads.j4 kj28 l0 t132 t133 t144 t147)) else (polyglotlaw07_KnownReads.j4 kj28 l0 t132 t133 t144 false)) else (none)) else (none)) else (polyglotlaw07_KnownReads.j4 kj28 l0 t132 t133 t144 false)) = some r := H
                    have A39 := Aside0.mk A390
                    clear A390
                    have HC40 := Aside0.mk H
                    clear H
                    go_upto_region 19 with (first | (go_at_call 36; (with_reducible refine (polyglotlaw07_first.calls kj28 _ _ l0 34 t144 _ ?side1 ?side2 A39.out).mono ?_); (case side1 => repeat (first | exact (Kd.C_below HR0.out HB.out) | (with_reducible refine Kd.C_alloc ?_ _) | (with_reducible refine Kd.C_drewN ?_ _) | (with_reducible refine Kd.C_drew ?_))); (case side2 => exact HC0.out); rintro e w' ⟨rfl, ⟨nd, rfl⟩⟩; (try first | exact ⟨rfl, _, World.drewN_drewN _ _ _⟩ | exact ⟨rfl, _, Eq.trans (World.drewN_drewN _ _ _) (congrArg (World.drewN _) (Nat.add_assoc _ _ _))⟩)))
                    repeat (go_quiet (first | (go_at_call 36; (with_reducible refine (polyglotlaw07_first.calls kj28 _ _ l0 34 t144 _ ?side1 ?side2 A39.out).mono ?_); (case side1 => repeat (first | exact (Kd.C_below HR0.out HB.out) | (with_reducible refine Kd.C_alloc ?_ _) | (with_reducible refine Kd.C_drewN ?_ _) | (with_reducible refine Kd.C_drew ?_))); (case side2 => exact HC0.out); rintro e w' ⟨rfl, ⟨nd, rfl⟩⟩; (try first | exact ⟨rfl, _, World.drewN_drewN _ _ _⟩ | exact ⟨rfl, _, Eq.trans (World.drewN_drewN _ _ _) (congrArg (World.drewN _) (Nat.add_assoc _ _ _))⟩))); go_upto_region 19 with (first | (go_at_call 36; (with_reducible refine (polyglotlaw07_first.calls kj28 _ _ l0 34 t144 _ ?side1 ?side2 A39.out).mono ?_); (case side1 => repeat (first | exact (Kd.C_below HR0.out HB.out) | (with_reducible refine Kd.C_alloc ?_ _) | (with_reducible refine Kd.C_drewN ?_ _) | (with_reducible refine Kd.C_drew ?_))); (case side2 => exact HC0.out); rintro e w' ⟨rfl, ⟨nd, rfl⟩⟩; (try first | exact ⟨rfl, _, World.drewN_drewN _ _ _⟩ | exact ⟨rfl, _, Eq.trans (World.drewN_drewN _ _ _) (congrArg (World.drewN _) (Nat.add_assoc _ _ _))⟩))))
                    (try simp only [Act.put, List.setIfInBounds_toArray, List.set_cons_zero, List.set_cons_succ])
                    go_cut [124] (fun v124 wc => ∃ (kq : Nat) (x124_39 : Bool), v124 = .bool x124_39 ∧ Aside0 (polyglotlaw07_KnownReads.j4 kq l0 t132 t133 t144 x124_39 = some r) ∧ Aside0 (kq ≤ kj28) ∧ Aside0 (Below w.heap.size w wc))
                    case first =>
                      have H := HC40.out
                      clear HC40
                      by_cases c41 : t144 ≥ 0
                      · rw [if_pos c41] at H
                        have c41b0 : decide (0 ≤ t144) = true := decide_eq_true c41
                        clear c41
                        (first | rw [c41b0] | (simp only [i64_w, i32_w]; rw [c41b0]) | skip)
                        by_cases c42 : 0 ≤ t144
                        · rw [if_pos c42] at H
                          have c42b0 : decide (0 ≤ t144) = true := decide_eq_true c42
                          clear c42
                          by_cases c43 : t144 < (l0.length : Int)
                          · rw [if_pos c43] at H
                            have c43b0 : decide (t144 < (l0.length : Int)) = true := decide_eq_true c43
                            clear c43
                            by_cases c44 : (((rd_T40 l0 t144).f1).length : Int) > 0
                            · rw [if_pos c44] at H
                              have c44b0 : decide (0 < (((rd_T40 l0 t144).f1).length : Int)) = true := decide_eq_true c44
                              have c44b1 : decide (0 < ((rd_T40 l0 t144).f1).length) = true := decide_eq_true (by omega)
                              clear c44
                              replace H := Option.bind_eq_some_iff.mp H
                              obtain ⟨t147, A450, H⟩ := H
                              replace H : (polyglotlaw07_KnownReads.j4 kj28 l0 t132 t133 t144 t147) = some r := H
                              have A45 := Aside0.mk A450
                              clear A450
                              have H' := Aside0.mk H
                              clear H
                              have p145 : 0 ≤ (t144 : Int) := of_decide_eq_true (by first | (with_reducible assumption) | assumption)
                              have q145 : t144 < (l0.length : Int) := of_decide_eq_true (by first | (with_reducible assumption) | assumption)
                              obtain ⟨ad145, A145_1, c145_1, e145, hx145_0, hx145_1, hl145_1, hi145_1⟩ := at_T40 HR0.out t144 p145 q145
                              cases e145
                              replace hx145_0 := (HB.out.cell (World.block_lt_of_cell? w _ hx145_0)).trans hx145_0
                              replace hx145_1 := (HB.out.cell (World.block_lt_of_cell? w _ hx145_1)).trans hx145_1
                              have HR145_1 := Aside0.mk hi145_1
                              have HC145_1 := Aside0.mk hl145_1
                              clear hi145_1 hl145_1
                              replace p145 := eq_true p145
                              replace q145 := eq_true q145
                              have p146 : 0 ≤ (t144 : Int) := of_decide_eq_true (by first | (with_reducible assumption) | assumption)
                              have q146 : t144 < (l0.length : Int) := of_decide_eq_true (by first | (with_reducible assumption) | assumption)
                              obtain ⟨ad146, A146_1, c146_1, e146, hx146_0, hx146_1, hl146_1, hi146_1⟩ := at_T40 HR0.out t144 p146 q146
                              obtain rfl : ad145 = ad146 := (by injection e146)
                              replace hx146_0 := (HB.out.cell (World.block_lt_of_cell? w _ hx146_0)).trans hx146_0
                              replace hx146_1 := (HB.out.cell (World.block_lt_of_cell? w _ hx146_1)).trans hx146_1
                              have HR146_1 := Aside0.mk hi146_1
                              have HC146_1 := Aside0.mk hl146_1
                              clear hi146_1 hl146_1
                              replace p146 := eq_true p146
                              replace q146 := eq_true q146
                              have ea_ := Option.some.inj (hx145_1.symm.trans hx146_1)
                              injection ea_ with ea_ en_ ec_
                              subst ea_
                              subst ec_
                              clear en_
                              have hcv46 := Kd.C_string (P := Try.prog) (A := A145_1) (c := c145_1) Try.underlying22 Try.underlying5 Try.underlying9 (Kd.C_below HR146_1.out HB.out)
                              (try have hcv46d := fun m_ => Kd.C_string (P := Try.prog) (A := A145_1) (c := c145_1) Try.underlying22 Try.underlying5 Try.underlying9 (Kd.C_drewN (Kd.C_below HR146_1.out HB.out) m_))
                              go_wp2_with (first | (go_at_call 37; (with_reducible refine (polyglotlaw07_plain.calls kj28 (strOfNums ((rd_T40 l0 t144).f1)) t147 _ A45.out).mono ?_); rintro e w' ⟨rfl, ⟨nd, rfl⟩⟩; (try first | exact ⟨rfl, _, World.drewN_drewN _ _ _⟩ | exact ⟨rfl, _, Eq.trans (World.drewN_drewN _ _ _) (congrArg (World.drewN _) (Nat.add_assoc _ _ _))⟩)))
                              repeat (go_quiet (first | (go_at_call 37; (with_reducible refine (polyglotlaw07_plain.calls kj28 (strOfNums ((rd_T40 l0 t144).f1)) t147 _ A45.out).mono ?_); rintro e w' ⟨rfl, ⟨nd, rfl⟩⟩; (try first | exact ⟨rfl, _, World.drewN_drewN _ _ _⟩ | exact ⟨rfl, _, Eq.trans (World.drewN_drewN _ _ _) (congrArg (World.drewN _) (Nat.add_assoc _ _ _))⟩))); try go_wp2_with (first | (go_at_call 37; (with_reducible refine (polyglotlaw07_plain.calls kj28 (strOfNums ((rd_T40 l0 t144).f1)) t147 _ A45.out).mono ?_); rintro e w' ⟨rfl, ⟨nd, rfl⟩⟩; (try first | exact ⟨rfl, _, World.drewN_drewN _ _ _⟩ | exact ⟨rfl, _, Eq.trans (World.drewN_drewN _ _ _) (congrArg (World.drewN _) (Nat.add_assoc _ _ _))⟩))))
                              go_meet
                              case rel => exact ⟨_, (t147), (by first | rfl | (simp; done) | (simp [*]; done)), H', ⟨by have := HJ7.out; have := HJ14.out; have := HJ24.out; have := HJ28.out; first | omega | exact Nat.le_refl _⟩, ⟨by repeat (first | (with_reducible first | exact HB.out | apply below_alloc | apply pw_below_drewN | apply below_drew1) | exact HB.out)⟩⟩
                            · rw [if_neg c44] at H
                              have c44b0 : decide (0 < (((rd_T40 l0 t144).f1).length : Int)) = false := decide_eq_false c44
                              have c44b1 : decide (0 < ((rd_T40 l0 t144).f1).length) = false := decide_eq_false (by omega)
                              clear c44
                              have H' := Aside0.mk H
                              clear H
                              have p145 : 0 ≤ (t144 : Int) := of_decide_eq_true (by first | (with_reducible assumption) | assumption)
                              have q145 : t144 < (l0.length : Int) := of_decide_eq_true (by first | (with_reducible assumption) | assumption)
                              obtain ⟨ad145, A145_1, c145_1, e145, hx145_0, hx145_1, hl145_1, hi145_1⟩ := at_T40 HR0.out t144 p145 q145
                              cases e145
                              replace hx145_0 := (HB.out.cell (World.block_lt_of_cell? w _ hx145_0)).trans hx145_0
                              replace hx145_1 := (HB.out.cell (World.block_lt_of_cell? w _ hx145_1)).trans hx145_1
                              have HR145_1 := Aside0.mk hi145_1
                              have HC145_1 := Aside0.mk hl145_1
                              clear hi145_1 hl145_1
                              replace p145 := eq_true p145
                              replace q145 := eq_true q145
                              go_wp2
                              repeat (go_quiet (fail); try go_wp2)
                              go_meet
                              case rel => exact ⟨_, (false), (by first | rfl | (simp; done) | (simp [*]; done)), H', ⟨by have := HJ7.out; have := HJ14.out; have := HJ24.out; have := HJ28.out; first | omega | exact Nat.le_refl _⟩, ⟨by repeat (first | (with_reducible first | exact HB.out | apply below_alloc | apply pw_below_drewN | apply below_drew1) | exact HB.out)⟩⟩
                          · rw [if_neg c43] at H
                            exact absurd H (by simp)
                        · rw [if_neg c42] at H
                          exact absurd H (by simp)
                      · rw [if_neg c41] at H
                        have c41b0 : decide (0 ≤ t144) = false := decide_eq_false c41
                        clear c41
                        (first | rw [c41b0] | (simp only [i64_w, i32_w]; rw [c41b0]) | skip)
                        have H' := Aside0.mk H
                        clear H
                        go_wp2
                        repeat (go_quiet (fail); try go_wp2)
                        go_meet
                        case rel => exact ⟨_, (false), (by first | rfl | (simp; done) | (simp [*]; done)), H', ⟨by have := HJ7.out; have := HJ14.out; have := HJ24.out; have := HJ28.out; first | omega | exact Nat.le_refl _⟩, ⟨by repeat (first | (with_reducible first | exact HB.out | apply below_alloc | apply pw_below_drewN | apply below_drew1) | exact HB.out)⟩⟩
                    case rest =>
                      clear HC40
                      try clear c1
                      try clear p1
                      try clear q1
                      try clear hx1
                      try clear qi1
                      try clear c2
                      try clear p2
                      try clear c3
                      try clear c4
                      try clear hcv4
                      try clear c6
                      try clear p6
                      try clear c12
                      try clear c12b0
                      try clear c13
                      try clear c13b0
                      try clear p13
                      try clear q13
                      try clear hx13
                      try clear qi13
                      try clear c14
                      try clear c14b0
                      try clear p14
                      try clear q14
                      try clear hx14
                      try clear qi14
                      try clear c16
                      try clear c17
                      try clear c18
                      try clear c18b0
                      try clear c19
                      try clear c19b0
                      try clear c20
                      try clear c20b0
                      try clear c20b1
                      try clear c21
                      try clear c21b0
                      try clear c21b1
                      try clear c22
                      try clear c23
                      try clear c23b0
                      try clear c23b1
                      try clear c26
                      try clear c26b0
                      try clear c27
                      try clear c27b0
                      try clear c28
                      try clear c28b0
                      try clear c30
                      try clear c31
                      try clear c32
                      try clear c32b0
                      try clear c33
                      try clear c33b0
                      try clear c34
                      try clear c34b0
                      try clear c34b1
                      try clear c35
                      try clear c35b0
                      try clear c35b1
                      try clear c36
                      try clear c36b0
                      try clear c36b1
                      try clear c37
                      try clear c38
                      try clear c38b0
                      try clear c38b1
                      try clear c41
                      try clear c41b0
                      try clear c42
                      try clear c42b0
                      try clear c43
                      try clear c43b0
                      try clear c44
                      try clear c44b0
                      try clear c44b1
                      try clear hcv46
                      try clear hx135_0
                      try clear hx135_1
                      try clear hx136_0
                      try clear hx136_1
                      try clear hx137_0
                      try clear hx139_0
                      try clear hx139_1
                      try clear hx140_0
                      try clear hx140_1
                      try clear hx141_0
                      try clear hx142_0
                      try clear hx142_1
                      try clear hx143_0
                      try clear hx145_0
                      try clear hx145_1
                      try clear hx146_0
                      try clear hx146_1
                      try clear p1
                      try clear p13
                      try clear p135
                      try clear p136
                      try clear p137
                      try clear p139
                      try clear p14
                      try clear p140
                      try clear p141
                      try clear p142
                      try clear p143
                      try clear p145
                      try clear p146
                      try clear p2
                      try clear p6
                      try clear q1
                      try clear q13
                      try clear q135
                      try clear q136
                      try clear q137
                      try clear q139
                      try clear q14
                      try clear q140
                      try clear q141
                      try clear q142
                      try clear q143
                      try clear q145
                      try clear q146
                      obtain ⟨kq, x124_39, rfl, HA, HJ39, HB⟩ := hcut
                      cases kq with
                      | zero => exact absurd HA.out (by simp [polyglotlaw07_KnownReads.j4])
                      | succ kj39 =>
                        have H := HA.out
                        clear HA
                        simp only [polyglotlaw07_KnownReads.j4] at H
                        by_cases c47 : x124_39 = true
                        · subst c47
                          have H1 : (if t133 = true then (if 0 ≤ t144 then (if t144 < (l0.length : Int) then (if t132.toList = (strOfNums ((rd_T40 l0 t144).f1)).toList then ((polyglotlaw07_awake.f).bind fun t149 => (some t149)) else (some false)) else (none)) else (none)) else (some false)) = some r := by rw [if_pos rfl] at H; exact H
                          clear H
                          have H := H1
                          clear H1
                          by_cases c48 : t133 = true
                          · subst c48
                            have H1 : (if 0 ≤ t144 then (if t144 < (l0.length : Int) then (if t132.toList = (strOfNums ((rd_T40 l0 t144).f1)).toList then ((polyglotlaw07_awake.f).bind fun t149 => (some t149)) else (some false)) else (none)) else (none)) = some r := by rw [if_pos rfl] at H; exact H
                            clear H
                            have H := H1
                            clear H1
                            by_cases c49 : 0 ≤ t144
                            · rw [if_pos c49] at H
                              have c49b0 : decide (0 ≤ t144) = true := decide_eq_true c49
                              clear c49
                              by_cases c50 : t144 < (l0.length : Int)
                              · rw [if_pos c50] at H
                                have c50b0 : decide (t144 < (l0.length : Int)) = true := decide_eq_true c50
                                clear c50
                                by_cases c51 : t132.toList = (strOfNums ((rd_T40 l0 t144).f1)).toList
                                · rw [if_pos c51] at H
                                  have c51b0 : (t132.toList == (strOfNums ((rd_T40 l0 t144).f1)).toList) = true := beq_iff_eq.mpr c51
                                  have c51b1 : (t132.toList != (strOfNums ((rd_T40 l0 t144).f1)).toList) = false := bne_eq_false_iff_eq.mpr c51
                                  clear c51
                                  replace H := Option.bind_eq_some_iff.mp H
                                  obtain ⟨t149, A520, H⟩ := H
                                  replace H : (some t149) = some r := H
                                  have A52 := Aside0.mk A520
                                  clear A520
                                  obtain rfl := Option.some.inj H
                                  have p148 : 0 ≤ (t144 : Int) := of_decide_eq_true (by first | (with_reducible assumption) | assumption)
                                  have q148 : t144 < (l0.length : Int) := of_decide_eq_true (by first | (with_reducible assumption) | assumption)
                                  obtain ⟨ad148, A148_1, c148_1, e148, hx148_0, hx148_1, hl148_1, hi148_1⟩ := at_T40 HR0.out t144 p148 q148
                                  cases e148
                                  replace hx148_0 := (HB.out.cell (World.block_lt_of_cell? w _ hx148_0)).trans hx148_0
                                  replace hx148_1 := (HB.out.cell (World.block_lt_of_cell? w _ hx148_1)).trans hx148_1
                                  have HR148_1 := Aside0.mk hi148_1
                                  have HC148_1 := Aside0.mk hl148_1
                                  clear hi148_1 hl148_1
                                  replace p148 := eq_true p148
                                  replace q148 := eq_true q148
                                  have hcv53 := Kd.C_string (P := Try.prog) (A := A148_1) (c := c148_1) Try.underlying22 Try.underlying5 Try.underlying9 (Kd.C_below HR148_1.out HB.out)
                                  (try have hcv53d := fun m_ => Kd.C_string (P := Try.prog) (A := A148_1) (c := c148_1) Try.underlying22 Try.underlying5 Try.underlying9 (Kd.C_drewN (Kd.C_below HR148_1.out HB.out) m_))
                                  go_wp2_with (first | (go_at_call 22; (with_reducible refine (polyglotlaw07_awake.calls  t149 _ A52.out).mono ?_); rintro e w54 ⟨rfl, hb⟩; have n0_ := Aside0.mk (below_step (by repeat (first | (with_reducible first | exact HB.out | apply below_alloc | apply pw_below_drewN | apply below_drew1) | exact HB.out)) hb); clear HB; have HB := n0_; clear n0_; (try clear hb); (try clear hb2); (try clear hk); (try clear hi)))
                                  repeat (go_quiet (first | (go_at_call 22; (with_reducible refine (polyglotlaw07_awake.calls  t149 _ A52.out).mono ?_); rintro e w54 ⟨rfl, hb⟩; have n0_ := Aside0.mk (below_step (by repeat (first | (with_reducible first | exact HB.out | apply below_alloc | apply pw_below_drewN | apply below_drew1) | exact HB.out)) hb); clear HB; have HB := n0_; clear n0_; (try clear hb); (try clear hb2); (try clear hk); (try clear hi))); try go_wp2_with (first | (go_at_call 22; (with_reducible refine (polyglotlaw07_awake.calls  t149 _ A52.out).mono ?_); rintro e w54 ⟨rfl, hb⟩; have n0_ := Aside0.mk (below_step (by repeat (first | (with_reducible first | exact HB.out | apply below_alloc | apply pw_below_drewN | apply below_drew1) | exact HB.out)) hb); clear HB; have HB := n0_; clear n0_; (try clear hb); (try clear hb2); (try clear hk); (try clear hi))))
                                  go_ret
                                  exact ⟨by first | rfl | (simp [errW_none, errW_some] <;> rfl) | (simp [*, errW_none, errW_some] <;> rfl), by repeat (first | (with_reducible first | exact HB.out | apply below_alloc | apply pw_below_drewN | apply below_drew1) | exact HB.out)⟩
                                · rw [if_neg c51] at H
                                  have c51b0 : (t132.toList == (strOfNums ((rd_T40 l0 t144).f1)).toList) = false := beq_eq_false_iff_ne.mpr c51
                                  have c51b1 : (t132.toList != (strOfNums ((rd_T40 l0 t144).f1)).toList) = true := bne_iff_ne.mpr c51
                                  obtain rfl := Option.some.inj H
                                  have p148 : 0 ≤ (t144 : Int) := of_decide_eq_true (by first | (with_reducible assumption) | assumption)
                                  have q148 : t144 < (l0.length : Int) := of_decide_eq_true (by first | (with_reducible assumption) | assumption)
                                  obtain ⟨ad148, A148_1, c148_1, e148, hx148_0, hx148_1, hl148_1, hi148_1⟩ := at_T40 HR0.out t144 p148 q148
                                  cases e148
                                  replace hx148_0 := (HB.out.cell (World.block_lt_of_cell? w _ hx148_0)).trans hx148_0
                                  replace hx148_1 := (HB.out.cell (World.block_lt_of_cell? w _ hx148_1)).trans hx148_1
                                  have HR148_1 := Aside0.mk hi148_1
                                  have HC148_1 := Aside0.mk hl148_1
                                  clear hi148_1 hl148_1
                                  replace p148 := eq_true p148
                                  replace q148 := eq_true q148
                                  have hcv55 := Kd.C_string (P := Try.prog) (A := A148_1) (c := c148_1) Try.underlying22 Try.underlying5 Try.underlying9 (Kd.C_below HR148_1.out HB.out)
                                  (try have hcv55d := fun m_ => Kd.C_string (P := Try.prog) (A := A148_1) (c := c148_1) Try.underlying22 Try.underlying5 Try.underlying9 (Kd.C_drewN (Kd.C_below HR148_1.out HB.out) m_))
                                  go_wp2
                                  repeat (go_quiet (fail); try go_wp2)
                                  go_ret
                                  exact ⟨by first | rfl | (simp [errW_none, errW_some] <;> rfl) | (simp [*, errW_none, errW_some] <;> rfl), by repeat (first | (with_reducible first | exact HB.out | apply below_alloc | apply pw_below_drewN | apply below_drew1) | exact HB.out)⟩
                              · rw [if_neg c50] at H
                                exact absurd H (by simp)
                            · rw [if_neg c49] at H
                              exact absurd H (by simp)
                          · replace c48 := Bool.eq_false_iff.mpr c48
                            subst c48
                            have H1 : (some false) = some r := by rw [if_neg (show ¬ (false = true) by decide)] at H; exact H
                            clear H
                            have H := H1
                            clear H1
                            obtain rfl := Option.some.inj H
                            go_wp2
                            repeat (go_quiet (fail); try go_wp2)
                            go_ret
                            exact ⟨by first | rfl | (simp [errW_none, errW_some] <;> rfl) | (simp [*, errW_none, errW_some] <;> rfl), by repeat (first | (with_reducible first | exact HB.out | apply below_alloc | apply pw_below_drewN | apply below_drew1) | exact HB.out)⟩
                        · replace c47 := Bool.eq_false_iff.mpr c47
                          subst c47
                          have H1 : (if t133 = true then (some false) else (if t132.toList = ([] : List UInt8) then ((polyglotlaw07_awake.f).bind fun t150 => (some t150)) else (some false))) = some r := by rw [if_neg (show ¬ (false = true) by decide)] at H; exact H
                          clear H
                          have H := H1
                          clear H1
                          by_cases c56 : t133 = true
                          · subst c56
                            have H1 : (some false) = some r := by rw [if_pos rfl] at H; exact H
                            clear H
                            have H := H1
                            clear H1
                            obtain rfl := Option.some.inj H
                            go_wp2
                            repeat (go_quiet (fail); try go_wp2)
                            go_ret
                            exact ⟨by first | rfl | (simp [errW_none, errW_some] <;> rfl) | (simp [*, errW_none, errW_some] <;> rfl), by repeat (first | (with_reducible first | exact HB.out | apply below_alloc | apply pw_below_drewN | apply below_drew1) | exact HB.out)⟩
                          · replace c56 := Bool.eq_false_iff.mpr c56
                            subst c56
                            have H1 : (if t132.toList = ([] : List UInt8) then ((polyglotlaw07_awake.f).bind fun t150 => (some t150)) else (some false)) = some r := by rw [if_neg (show ¬ (false = true) by decide)] at H; exact H
                            clear H
                            have H := H1
                            clear H1
                            by_cases c57 : t132.toList = ([] : List UInt8)
                            · rw [if_pos c57] at H
                              have c57b0 : (t132.toList == ([] : List UInt8)) = true := beq_iff_eq.mpr c57
                              have c57b1 : (t132.toList != ([] : List UInt8)) = false := bne_eq_false_iff_eq.mpr c57
                              clear c57
                              replace H := Option.bind_eq_some_iff.mp H
                              obtain ⟨t150, A580, H⟩ := H
                              replace H : (some t150) = some r := H
                              have A58 := Aside0.mk A580
                              clear A580
                              obtain rfl := Option.some.inj H
                              go_wp2_with (first | (go_at_call 22; (with_reducible refine (polyglotlaw07_awake.calls  t150 _ A58.out).mono ?_); rintro e w59 ⟨rfl, hb⟩; have n0_ := Aside0.mk (below_step (by repeat (first | (with_reducible first | exact HB.out | apply below_alloc | apply pw_below_drewN | apply below_drew1) | exact HB.out)) hb); clear HB; have HB := n0_; clear n0_; (try clear hb); (try clear hb2); (try clear hk); (try clear hi)))
                              repeat (go_quiet (first | (go_at_call 22; (with_reducible refine (polyglotlaw07_awake.calls  t150 _ A58.out).mono ?_); rintro e w59 ⟨rfl, hb⟩; have n0_ := Aside0.mk (below_step (by repeat (first | (with_reducible first | exact HB.out | apply below_alloc | apply pw_below_drewN | apply below_drew1) | exact HB.out)) hb); clear HB; have HB := n0_; clear n0_; (try clear hb); (try clear hb2); (try clear hk); (try clear hi))); try go_wp2_with (first | (go_at_call 22; (with_reducible refine (polyglotlaw07_awake.calls  t150 _ A58.out).mono ?_); rintro e w59 ⟨rfl, hb⟩; have n0_ := Aside0.mk (below_step (by repeat (first | (with_reducible first | exact HB.out | apply below_alloc | apply pw_below_drewN | apply below_drew1) | exact HB.out)) hb); clear HB; have HB := n0_; clear n0_; (try clear hb); (try clear hb2); (try clear hk); (try clear hi))))
                              go_ret
                              exact ⟨by first | rfl | (simp [errW_none, errW_some] <;> rfl) | (simp [*, errW_none, errW_some] <;> rfl), by repeat (first | (with_reducible first | exact HB.out | apply below_alloc | apply pw_below_drewN | apply below_drew1) | exact HB.out)⟩
                            · rw [if_neg c57] at H
                              have c57b0 : (t132.toList == ([] : List UInt8)) = false := beq_eq_false_iff_ne.mpr c57
                              have c57b1 : (t132.toList != ([] : List UInt8)) = true := bne_iff_ne.mpr c57
                              obtain rfl := Option.some.inj H
                              go_wp2
                              repeat (go_quiet (fail); try go_wp2)
                              go_ret
                              exact ⟨by first | rfl | (simp [errW_none, errW_some] <;> rfl) | (simp [*, errW_none, errW_some] <;> rfl), by repeat (first | (with_reducible first | exact HB.out | apply below_alloc | apply pw_below_drewN | apply below_drew1) | exact HB.out)⟩
  · replace c3 := Bool.eq_false_iff.mpr c3
    subst c3
    have H1 : ((polyglotlaw07_awake.f).bind fun t127 => (some t127)) = some r := by rw [if_neg (show ¬ (false = true) by decide)] at H; exact H
    clear H
    have H := H1
    clear H1
    replace H := Option.bind_eq_some_iff.mp H
    obtain ⟨t127, A600, H⟩ := H
    replace H : (some t127) = some r := H
    have A60 := Aside0.mk A600
    clear A600
    obtain rfl := Option.some.inj H
    go_enter Try.func6, Try.ntmps6
    go_wp2_with (first | (go_at_call 21; (with_reducible refine (polyglotlaw06_Few.calls k _ _ l0 false _ ?side1 ?side2 A2.out).mono ?_); (case side1 => repeat (first | exact HR0.out | (with_reducible refine Kd.C_alloc ?_ _) | (with_reducible refine Kd.C_drewN ?_ _) | (with_reducible refine Kd.C_drew ?_))); (case side2 => exact HC0.out); rintro e w' ⟨rfl, ⟨nd, rfl⟩⟩; (try first | exact ⟨rfl, _, World.drewN_drewN _ _ _⟩ | exact ⟨rfl, _, Eq.trans (World.drewN_drewN _ _ _) (congrArg (World.drewN _) (Nat.add_assoc _ _ _))⟩)) | (go_at_call 22; (with_reducible refine (polyglotlaw07_awake.calls  t127 _ A60.out).mono ?_); rintro e w61 ⟨rfl, hb⟩; have n0_ := Aside0.mk (below_step (by repeat (first | (with_reducible first | exact HB.out | apply below_alloc | apply pw_below_drewN | apply below_drew1) | exact HB.out)) hb); clear HB; have HB := n0_; clear n0_; (try clear hb); (try clear hb2); (try clear hk); (try clear hi)))
    repeat (go_quiet (first | (go_at_call 21; (with_reducible refine (polyglotlaw06_Few.calls k _ _ l0 false _ ?side1 ?side2 A2.out).mono ?_); (case side1 => repeat (first | exact HR0.out | (with_reducible refine Kd.C_alloc ?_ _) | (with_reducible refine Kd.C_drewN ?_ _) | (with_reducible refine Kd.C_drew ?_))); (case side2 => exact HC0.out); rintro e w' ⟨rfl, ⟨nd, rfl⟩⟩; (try first | exact ⟨rfl, _, World.drewN_drewN _ _ _⟩ | exact ⟨rfl, _, Eq.trans (World.drewN_drewN _ _ _) (congrArg (World.drewN _) (Nat.add_assoc _ _ _))⟩)) | (go_at_call 22; (with_reducible refine (polyglotlaw07_awake.calls  t127 _ A60.out).mono ?_); rintro e w61 ⟨rfl, hb⟩; have n0_ := Aside0.mk (below_step (by repeat (first | (with_reducible first | exact HB.out | apply below_alloc | apply pw_below_drewN | apply below_drew1) | exact HB.out)) hb); clear HB; have HB := n0_; clear n0_; (try clear hb); (try clear hb2); (try clear hk); (try clear hi))); try go_wp2_with (first | (go_at_call 21; (with_reducible refine (polyglotlaw06_Few.calls k _ _ l0 false _ ?side1 ?side2 A2.out).mono ?_); (case side1 => repeat (first | exact HR0.out | (with_reducible refine Kd.C_alloc ?_ _) | (with_reducible refine Kd.C_drewN ?_ _) | (with_reducible refine Kd.C_drew ?_))); (case side2 => exact HC0.out); rintro e w' ⟨rfl, ⟨nd, rfl⟩⟩; (try first | exact ⟨rfl, _, World.drewN_drewN _ _ _⟩ | exact ⟨rfl, _, Eq.trans (World.drewN_drewN _ _ _) (congrArg (World.drewN _) (Nat.add_assoc _ _ _))⟩)) | (go_at_call 22; (with_reducible refine (polyglotlaw07_awake.calls  t127 _ A60.out).mono ?_); rintro e w61 ⟨rfl, hb⟩; have n0_ := Aside0.mk (below_step (by repeat (first | (with_reducible first | exact HB.out | apply below_alloc | apply pw_below_drewN | apply below_drew1) | exact HB.out)) hb); clear HB; have HB := n0_; clear n0_; (try clear hb); (try clear hb2); (try clear hk); (try clear hi))))
    go_ret
    exact ⟨by first | rfl | (simp [errW_none, errW_some] <;> rfl) | (simp [*, errW_none, errW_some] <;> rfl), by repeat (first | (with_reducible first | exact HB.out | apply below_alloc | apply pw_below_drewN | apply below_drew1) | exact HB.out)⟩

/-- THE ONE PURE STATEMENT of polyglotlaw07_KnownReads: yours. -/
def polyglotlaw07_KnownReads.Pure : Prop := ∀ (l0 : List (S40)), l0.length ≤ maxLen → (∀ v ∈ l0, ((Lit.int .i64 v.f0).wf = true ∧ (v.f1.length ≤ maxLen ∧ ∀ v4 ∈ v.f1, (Lit.int .u8 v4).wf = true))) → ∃ k, polyglotlaw07_KnownReads.f k l0 = some true

end Go.Proofs.Ytdamjkfggmmmeab.PKn
