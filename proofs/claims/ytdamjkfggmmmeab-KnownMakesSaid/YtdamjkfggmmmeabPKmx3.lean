-- WRITTEN BY A PROGRAM OF THIS SESSION (a print of its own, with given functions). Not trusted: Lean checks it.
import Derived.Test.YtdamjkfggmmmeabPKmx0
import Derived.Test.YtdamjkfggmmmeabPKmx1
import Derived.Test.YtdamjkfggmmmeabPKmx2
namespace Go.Proofs.Ytdamjkfggmmmeab.PKm
open Go.RowKit Go.Proofs.YtdamjkfggmmmeabW.PrintWords Go.Proofs.YtdamjkfggmmmeabW.PrintLast Go.Proofs.YtdamjkfggmmmeabW.PrintMore
attribute [local go_sem] max2_int min2_int max_two min_two max_three min_three max_four min_four   -- for this text's walks alone
set_option linter.unusedVariables false
set_option linter.unusedSimpArgs false

/-! ### polyglotlaw07_KnownMakes: function 7 -/
mutual
def polyglotlaw07_KnownMakes.j0 : Nat → Int → Int → ByteArray → List (S40) → Int → Bool → Option (Bool)
  | 0, _, _, _, _, _, _ => none
  | k + 1, x0, x1, x2, x7, x8, x41 => if x41 = true then (if (x7.length : Int) = 0 then (if x8 = 5 then ((polyglotlaw07_awake.f).bind fun t129 => (some t129)) else (some false)) else (some false)) else ((polyglotlaw07_plain.f k x2).bind fun t130 => (if t130 = true then ((known_ZoneOf.f k x7).bind fun bt132 => ((known_LoadOf.f k x7).bind fun bt134 => ((known_BuildOf.f k x7).bind fun bt136 => (if x0 ≥ 0 then (polyglotlaw07_KnownMakes.j1 k x0 x1 x2 x7 x8 bt132.1 bt132.2 bt134.1 bt134.2 bt136.1 bt136.2 (0 + 1)) else (polyglotlaw07_KnownMakes.j1 k x0 x1 x2 x7 x8 bt132.1 bt132.2 bt134.1 bt134.2 bt136.1 bt136.2 0))))) else (if (x7.length : Int) = 0 then (if x8 = 4 then ((polyglotlaw07_awake.f).bind fun t131 => (some t131)) else (some false)) else (some false))))
def polyglotlaw07_KnownMakes.j1 : Nat → Int → Int → ByteArray → List (S40) → Int → Int → Bool → Int → Bool → ByteArray → Bool → Int → Option (Bool)
  | 0, _, _, _, _, _, _, _, _, _, _, _, _ => none
  | k + 1, x0, x1, x2, x7, x8, x9, x10, x11, x12, x13, x14, x15 => if x1 ≥ 0 then (polyglotlaw07_KnownMakes.j2 k x0 x1 x2 x7 x8 x9 x10 x11 x12 x13 x14 (wrap64 (x15 + 1))) else (polyglotlaw07_KnownMakes.j2 k x0 x1 x2 x7 x8 x9 x10 x11 x12 x13 x14 x15)
def polyglotlaw07_KnownMakes.j2 : Nat → Int → Int → ByteArray → List (S40) → Int → Int → Bool → Int → Bool → ByteArray → Bool → Int → Option (Bool)
  | 0, _, _, _, _, _, _, _, _, _, _, _, _ => none
  | k + 1, x0, x1, x2, x7, x8, x9, x10, x11, x12, x13, x14, x15 => if x2.toList = ([] : List UInt8) then (polyglotlaw07_KnownMakes.j3 k x0 x1 x2 x7 x8 x9 x10 x11 x12 x13 x14 x15) else (polyglotlaw07_KnownMakes.j3 k x0 x1 x2 x7 x8 x9 x10 x11 x12 x13 x14 (wrap64 (x15 + 1)))
def polyglotlaw07_KnownMakes.j3 : Nat → Int → Int → ByteArray → List (S40) → Int → Int → Bool → Int → Bool → ByteArray → Bool → Int → Option (Bool)
  | 0, _, _, _, _, _, _, _, _, _, _, _, _ => none
  | k + 1, x0, x1, x2, x7, x8, x9, x10, x11, x12, x13, x14, x15 => polyglotlaw07_KnownMakes.l0 k x0 x1 x2 x7 x8 x9 x10 x11 x12 x13 x14 x15 1
def polyglotlaw07_KnownMakes.l0 : Nat → Int → Int → ByteArray → List (S40) → Int → Int → Bool → Int → Bool → ByteArray → Bool → Int → Int → Option (Bool)
  | 0, _, _, _, _, _, _, _, _, _, _, _, _, _ => none
  | k + 1, x0, x1, x2, x7, x8, x9, x10, x11, x12, x13, x14, x15, x16 => if x16 < (x7.length : Int) then (if 0 ≤ x16 then (if 0 ≤ (wrap64 (x16 - 1)) then (if (wrap64 (x16 - 1)) < (x7.length : Int) then (if ((rd_T40 x7 x16).f0) ≤ ((rd_T40 x7 (wrap64 (x16 - 1))).f0) then (some false) else (polyglotlaw07_KnownMakes.l0 k x0 x1 x2 x7 x8 x9 x10 x11 x12 x13 x14 x15 (wrap64 (x16 + 1)))) else (none)) else (none)) else (none)) else (if x8 = 0 then (if (x7.length : Int) = x15 then (if x0 ≥ 0 then (if x10 = true then (if x1 ≥ 0 then (if x12 = true then (if (x14 == (x2.toList != ([] : List UInt8))) = true then (if x9 = x0 then (if x11 = x1 then (if x13.toList = x2.toList then ((polyglotlaw07_awake.f).bind fun t140 => (some t140)) else (some false)) else (some false)) else (some false)) else (some false)) else (some false)) else (if x12 = true then (some false) else (if (x14 == (x2.toList != ([] : List UInt8))) = true then (if x9 = x0 then (if x13.toList = x2.toList then ((polyglotlaw07_awake.f).bind fun t141 => (some t141)) else (some false)) else (some false)) else (some false)))) else (some false)) else (if x10 = true then (some false) else (if x1 ≥ 0 then (if x12 = true then (if (x14 == (x2.toList != ([] : List UInt8))) = true then (if x11 = x1 then (if x13.toList = x2.toList then ((polyglotlaw07_awake.f).bind fun t142 => (some t142)) else (some false)) else (some false)) else (some false)) else (some false)) else (if x12 = true then (some false) else (if (x14 == (x2.toList != ([] : List UInt8))) = true then (if x13.toList = x2.toList then ((polyglotlaw07_awake.f).bind fun t143 => (some t143)) else (some false)) else (some false)))))) else (some false)) else (some false))
end
def polyglotlaw07_KnownMakes.f (k : Nat) (a0 : Int) (a1 : Int) (a2 : ByteArray) : Option (Bool) := if (a2.size : Int) > 40 then ((polyglotlaw07_awake.f).bind fun t124 => (some t124)) else ((known_Make.f k a0 a1 a2).bind fun bt125 => (if a0 < (-1) then (polyglotlaw07_KnownMakes.j0 k a0 a1 a2 bt125.1 bt125.2 true) else (if a0 > 255 then (polyglotlaw07_KnownMakes.j0 k a0 a1 a2 bt125.1 bt125.2 true) else (if a1 < (-1) then (polyglotlaw07_KnownMakes.j0 k a0 a1 a2 bt125.1 bt125.2 true) else (polyglotlaw07_KnownMakes.j0 k a0 a1 a2 bt125.1 bt125.2 (decide (a1 > 65535)))))))
theorem polyglotlaw07_KnownMakes.mono_l : ∀ k, (∀ y0 y1 y2 y3 y4 y5, LeO (polyglotlaw07_KnownMakes.j0 k y0 y1 y2 y3 y4 y5) (polyglotlaw07_KnownMakes.j0 (k + 1) y0 y1 y2 y3 y4 y5)) ∧ (∀ y0 y1 y2 y3 y4 y5 y6 y7 y8 y9 y10 y11, LeO (polyglotlaw07_KnownMakes.j1 k y0 y1 y2 y3 y4 y5 y6 y7 y8 y9 y10 y11) (polyglotlaw07_KnownMakes.j1 (k + 1) y0 y1 y2 y3 y4 y5 y6 y7 y8 y9 y10 y11)) ∧ (∀ y0 y1 y2 y3 y4 y5 y6 y7 y8 y9 y10 y11, LeO (polyglotlaw07_KnownMakes.j2 k y0 y1 y2 y3 y4 y5 y6 y7 y8 y9 y10 y11) (polyglotlaw07_KnownMakes.j2 (k + 1) y0 y1 y2 y3 y4 y5 y6 y7 y8 y9 y10 y11)) ∧ (∀ y0 y1 y2 y3 y4 y5 y6 y7 y8 y9 y10 y11, LeO (polyglotlaw07_KnownMakes.j3 k y0 y1 y2 y3 y4 y5 y6 y7 y8 y9 y10 y11) (polyglotlaw07_KnownMakes.j3 (k + 1) y0 y1 y2 y3 y4 y5 y6 y7 y8 y9 y10 y11)) ∧ (∀ y0 y1 y2 y3 y4 y5 y6 y7 y8 y9 y10 y11 y12, LeO (polyglotlaw07_KnownMakes.l0 k y0 y1 y2 y3 y4 y5 y6 y7 y8 y9 y10 y11 y12) (polyglotlaw07_KnownMakes.l0 (k + 1) y0 y1 y2 y3 y4 y5 y6 y7 y8 y9 y10 y11 y12))
  | 0 => ⟨fun _ _ _ _ _ _ r h => by simp [polyglotlaw07_KnownMakes.j0] at h, fun _ _ _ _ _ _ _ _ _ _ _ _ r h => by simp [polyglotlaw07_KnownMakes.j1] at h, fun _ _ _ _ _ _ _ _ _ _ _ _ r h => by simp [polyglotlaw07_KnownMakes.j2] at h, fun _ _ _ _ _ _ _ _ _ _ _ _ r h => by simp [polyglotlaw07_KnownMakes.j3] at h, fun _ _ _ _ _ _ _ _ _ _ _ _ _ r h => by simp [polyglotlaw07_KnownMakes.l0] at h⟩
  | k + 1 => by
    obtain ⟨ih0, ih1, ih2, ih3, ih4⟩ := polyglotlaw07_KnownMakes.mono_l k
    refine ⟨?_, ?_, ?_, ?_, ?_⟩
    · intro y0 y1 y2 y3 y4 y5
      unfold polyglotlaw07_KnownMakes.j0
      repeat' first
      | (with_reducible exact ih0 _ _ _ _ _ _)
      | (with_reducible exact ih1 _ _ _ _ _ _ _ _ _ _ _ _)
      | (with_reducible exact ih2 _ _ _ _ _ _ _ _ _ _ _ _)
      | (with_reducible exact ih3 _ _ _ _ _ _ _ _ _ _ _ _)
      | (with_reducible exact ih4 _ _ _ _ _ _ _ _ _ _ _ _ _)
      | (with_reducible exact known_BuildOf.mono _ _)
      | (with_reducible exact known_LoadOf.mono _ _)
      | (with_reducible exact known_Make.mono _ _ _ _)
      | (with_reducible exact known_ZoneOf.mono _ _)
      | (with_reducible exact polyglotlaw07_plain.mono _ _)
      | (with_reducible exact LeO.refl _)
      | (with_reducible exact LeO.none _)
      | (with_reducible refine LeO.ite ?_ ?_)
      | (with_reducible refine LeO.bind ?_ (fun _ => ?_))
      | exact ih0 _ _ _ _ _ _
      | exact ih1 _ _ _ _ _ _ _ _ _ _ _ _
      | exact ih2 _ _ _ _ _ _ _ _ _ _ _ _
      | exact ih3 _ _ _ _ _ _ _ _ _ _ _ _
      | exact ih4 _ _ _ _ _ _ _ _ _ _ _ _ _
      | exact known_BuildOf.mono _ _
      | exact known_LoadOf.mono _ _
      | exact known_Make.mono _ _ _ _
      | exact known_ZoneOf.mono _ _
      | exact polyglotlaw07_plain.mono _ _
      | exact LeO.none _
      | refine LeO.ite ?_ ?_
      | refine LeO.bind ?_ (fun _ => ?_)
    · intro y0 y1 y2 y3 y4 y5 y6 y7 y8 y9 y10 y11
      unfold polyglotlaw07_KnownMakes.j1
      repeat' first
      | (with_reducible exact ih0 _ _ _ _ _ _)
      | (with_reducible exact ih1 _ _ _ _ _ _ _ _ _ _ _ _)
      | (with_reducible exact ih2 _ _ _ _ _ _ _ _ _ _ _ _)
      | (with_reducible exact ih3 _ _ _ _ _ _ _ _ _ _ _ _)
      | (with_reducible exact ih4 _ _ _ _ _ _ _ _ _ _ _ _ _)
      | (with_reducible exact known_BuildOf.mono _ _)
      | (with_reducible exact known_LoadOf.mono _ _)
      | (with_reducible exact known_Make.mono _ _ _ _)
      | (with_reducible exact known_ZoneOf.mono _ _)
      | (with_reducible exact polyglotlaw07_plain.mono _ _)
      | (with_reducible exact LeO.refl _)
      | (with_reducible exact LeO.none _)
      | (with_reducible refine LeO.ite ?_ ?_)
      | (with_reducible refine LeO.bind ?_ (fun _ => ?_))
      | exact ih0 _ _ _ _ _ _
      | exact ih1 _ _ _ _ _ _ _ _ _ _ _ _
      | exact ih2 _ _ _ _ _ _ _ _ _ _ _ _
      | exact ih3 _ _ _ _ _ _ _ _ _ _ _ _
      | exact ih4 _ _ _ _ _ _ _ _ _ _ _ _ _
      | exact known_BuildOf.mono _ _
      | exact known_LoadOf.mono _ _
      | exact known_Make.mono _ _ _ _
      | exact known_ZoneOf.mono _ _
      | exact polyglotlaw07_plain.mono _ _
      | exact LeO.none _
      | refine LeO.ite ?_ ?_
      | refine LeO.bind ?_ (fun _ => ?_)
    · intro y0 y1 y2 y3 y4 y5 y6 y7 y8 y9 y10 y11
      unfold polyglotlaw07_KnownMakes.j2
      repeat' first
      | (with_reducible exact ih0 _ _ _ _ _ _)
      | (with_reducible exact ih1 _ _ _ _ _ _ _ _ _ _ _ _)
      | (with_reducible exact ih2 _ _ _ _ _ _ _ _ _ _ _ _)
      | (with_reducible exact ih3 _ _ _ _ _ _ _ _ _ _ _ _)
      | (with_reducible exact ih4 _ _ _ _ _ _ _ _ _ _ _ _ _)
      | (with_reducible exact known_BuildOf.mono _ _)
      | (with_reducible exact known_LoadOf.mono _ _)
      | (with_reducible exact known_Make.mono _ _ _ _)
      | (with_reducible exact known_ZoneOf.mono _ _)
      | (with_reducible exact polyglotlaw07_plain.mono _ _)
      | (with_reducible exact LeO.refl _)
      | (with_reducible exact LeO.none _)
      | (with_reducible refine LeO.ite ?_ ?_)
      | (with_reducible refine LeO.bind ?_ (fun _ => ?_))
      | exact ih0 _ _ _ _ _ _
      | exact ih1 _ _ _ _ _ _ _ _ _ _ _ _
      | exact ih2 _ _ _ _ _ _ _ _ _ _ _ _
      | exact ih3 _ _ _ _ _ _ _ _ _ _ _ _
      | exact ih4 _ _ _ _ _ _ _ _ _ _ _ _ _
      | exact known_BuildOf.mono _ _
      | exact known_LoadOf.mono _ _
      | exact known_Make.mono _ _ _ _
      | exact known_ZoneOf.mono _ _
      | exact polyglotlaw07_plain.mono _ _
      | exact LeO.none _
      | refine LeO.ite ?_ ?_
      | refine LeO.bind ?_ (fun _ => ?_)
    · intro y0 y1 y2 y3 y4 y5 y6 y7 y8 y9 y10 y11
      unfold polyglotlaw07_KnownMakes.j3
      repeat' first
      | (with_reducible exact ih0 _ _ _ _ _ _)
      | (with_reducible exact ih1 _ _ _ _ _ _ _ _ _ _ _ _)
      | (with_reducible exact ih2 _ _ _ _ _ _ _ _ _ _ _ _)
      | (with_reducible exact ih3 _ _ _ _ _ _ _ _ _ _ _ _)
      | (with_reducible exact ih4 _ _ _ _ _ _ _ _ _ _ _ _ _)
      | (with_reducible exact known_BuildOf.mono _ _)
      | (with_reducible exact known_LoadOf.mono _ _)
      | (with_reducible exact known_Make.mono _ _ _ _)
      | (with_reducible exact known_ZoneOf.mono _ _)
      | (with_reducible exact polyglotlaw07_plain.mono _ _)
      | (with_reducible exact LeO.refl _)
      | (with_reducible exact LeO.none _)
      | (with_reducible refine LeO.ite ?_ ?_)
      | (with_reducible refine LeO.bind ?_ (fun _ => ?_))
      | exact ih0 _ _ _ _ _ _
      | exact ih1 _ _ _ _ _ _ _ _ _ _ _ _
      | exact ih2 _ _ _ _ _ _ _ _ _ _ _ _
      | exact ih3 _ _ _ _ _ _ _ _ _ _ _ _
      | exact ih4 _ _ _ _ _ _ _ _ _ _ _ _ _
      | exact known_BuildOf.mono _ _
      | exact known_LoadOf.mono _ _
      | exact known_Make.mono _ _ _ _
      | exact known_ZoneOf.mono _ _
      | exact polyglotlaw07_plain.mono _ _
      | exact LeO.none _
      | refine LeO.ite ?_ ?_
      | refine LeO.bind ?_ (fun _ => ?_)
    · intro y0 y1 y2 y3 y4 y5 y6 y7 y8 y9 y10 y11 y12
      unfold polyglotlaw07_KnownMakes.l0
      repeat' first
      | (with_reducible exact ih0 _ _ _ _ _ _)
      | (with_reducible exact ih1 _ _ _ _ _ _ _ _ _ _ _ _)
      | (with_reducible exact ih2 _ _ _ _ _ _ _ _ _ _ _ _)
      | (with_reducible exact ih3 _ _ _ _ _ _ _ _ _ _ _ _)
      | (with_reducible exact ih4 _ _ _ _ _ _ _ _ _ _ _ _ _)
      | (with_reducible exact known_BuildOf.mono _ _)
      | (with_reducible exact known_LoadOf.mono _ _)
      | (with_reducible exact known_Make.mono _ _ _ _)
      | (with_reducible exact known_ZoneOf.mono _ _)
      | (with_reducible exact polyglotlaw07_plain.mono _ _)
      | (with_reducible exact LeO.refl _)
      | (with_reducible exact LeO.none _)
      | (with_reducible refine LeO.ite ?_ ?_)
      | (with_reducible refine LeO.bind ?_ (fun _ => ?_))
      | exact ih0 _ _ _ _ _ _
      | exact ih1 _ _ _ _ _ _ _ _ _ _ _ _
      | exact ih2 _ _ _ _ _ _ _ _ _ _ _ _
      | exact ih3 _ _ _ _ _ _ _ _ _ _ _ _
      | exact ih4 _ _ _ _ _ _ _ _ _ _ _ _ _
      | exact known_BuildOf.mono _ _
      | exact known_LoadOf.mono _ _
      | exact known_Make.mono _ _ _ _
      | exact known_ZoneOf.mono _ _
      | exact polyglotlaw07_plain.mono _ _
      | exact LeO.none _
      | refine LeO.ite ?_ ?_
      | refine LeO.bind ?_ (fun _ => ?_)
theorem polyglotlaw07_KnownMakes.mono : ∀ a0 a1 a2 k, LeO (polyglotlaw07_KnownMakes.f k a0 a1 a2) (polyglotlaw07_KnownMakes.f (k + 1) a0 a1 a2) := by
  intro a0 a1 a2 k
  obtain ⟨ih0, ih1, ih2, ih3, ih4⟩ := polyglotlaw07_KnownMakes.mono_l k
  unfold polyglotlaw07_KnownMakes.f
  repeat' first
      | (with_reducible exact ih0 _ _ _ _ _ _)
      | (with_reducible exact ih1 _ _ _ _ _ _ _ _ _ _ _ _)
      | (with_reducible exact ih2 _ _ _ _ _ _ _ _ _ _ _ _)
      | (with_reducible exact ih3 _ _ _ _ _ _ _ _ _ _ _ _)
      | (with_reducible exact ih4 _ _ _ _ _ _ _ _ _ _ _ _ _)
      | (with_reducible exact known_BuildOf.mono _ _)
      | (with_reducible exact known_LoadOf.mono _ _)
      | (with_reducible exact known_Make.mono _ _ _ _)
      | (with_reducible exact known_ZoneOf.mono _ _)
      | (with_reducible exact polyglotlaw07_plain.mono _ _)
      | (with_reducible exact LeO.refl _)
      | (with_reducible exact LeO.none _)
      | (with_reducible refine LeO.ite ?_ ?_)
      | (with_reducible refine LeO.bind ?_ (fun _ => ?_))
      | exact ih0 _ _ _ _ _ _
      | exact ih1 _ _ _ _ _ _ _ _ _ _ _ _
      | exact ih2 _ _ _ _ _ _ _ _ _ _ _ _
      | exact ih3 _ _ _ _ _ _ _ _ _ _ _ _
      | exact ih4 _ _ _ _ _ _ _ _ _ _ _ _ _
      | exact known_BuildOf.mono _ _
      | exact known_LoadOf.mono _ _
      | exact known_Make.mono _ _ _ _
      | exact known_ZoneOf.mono _ _
      | exact polyglotlaw07_plain.mono _ _
      | exact LeO.none _
      | refine LeO.ite ?_ ?_
      | refine LeO.bind ?_ (fun _ => ?_)
set_option maxHeartbeats 8000000 in
set_option maxRecDepth 100000 in
theorem polyglotlaw07_KnownMakes.calls (k : Nat) (a0 : Int) (a1 : Int) (a2 : ByteArray) (r : Bool) (w : World) (h : polyglotlaw07_KnownMakes.f k a0 a1 a2 = some r) :
    Calls Try.prog 7 #[.int .i64 a0, .int .i64 a1, .string a2] w fun e w' => e = .returned (.bool r) ∧ Below w.heap.size w w' := by
  have HB := Aside0.mk (Below.refl w.heap.size w)
  have H : (if (a2.size : Int) > 40 then ((polyglotlaw07_awake.f).bind fun t124 => (some t124)) else ((known_Make.f k a0 a1 a2).bind fun bt125 => (if a0 < (-1) then (polyglotlaw07_KnownMakes.j0 k a0 a1 a2 bt125.1 bt125.2 true) else (if a0 > 255 then (polyglotlaw07_KnownMakes.j0 k a0 a1 a2 bt125.1 bt125.2 true) else (if a1 < (-1) then (polyglotlaw07_KnownMakes.j0 k a0 a1 a2 bt125.1 bt125.2 true) else (polyglotlaw07_KnownMakes.j0 k a0 a1 a2 bt125.1 bt125.2 (decide (a1 > 65535)))))))) = some r := h
  clear h
  by_cases c4 : (a2.size : Int) > 40
  · rw [if_pos c4] at H
    have c4b0 : decide (40 < (a2.size : Int)) = true := decide_eq_true c4
    have c4b1 : decide (40 < a2.size) = true := decide_eq_true (by omega)
    clear c4
    replace H := Option.bind_eq_some_iff.mp H
    obtain ⟨t124, A50, H⟩ := H
    replace H : (some t124) = some r := H
    have A5 := Aside0.mk A50
    clear A50
    obtain rfl := Option.some.inj H
    go_enter Try.func7, Try.ntmps7
    go_wp2_with (first | (go_at_call 22; (with_reducible refine (polyglotlaw07_awake.calls  t124 _ A5.out).mono ?_); rintro e w6 ⟨rfl, hb⟩; have n0_ := Aside0.mk (below_step (by repeat (first | (with_reducible first | exact HB.out | apply below_alloc | apply pw_below_drewN | apply below_drew1) | exact HB.out)) hb); clear HB; have HB := n0_; clear n0_; (try clear hb); (try clear hb2); (try clear hk); (try clear hi)))
    repeat (go_quiet (first | (go_at_call 22; (with_reducible refine (polyglotlaw07_awake.calls  t124 _ A5.out).mono ?_); rintro e w6 ⟨rfl, hb⟩; have n0_ := Aside0.mk (below_step (by repeat (first | (with_reducible first | exact HB.out | apply below_alloc | apply pw_below_drewN | apply below_drew1) | exact HB.out)) hb); clear HB; have HB := n0_; clear n0_; (try clear hb); (try clear hb2); (try clear hk); (try clear hi))); try go_wp2_with (first | (go_at_call 22; (with_reducible refine (polyglotlaw07_awake.calls  t124 _ A5.out).mono ?_); rintro e w6 ⟨rfl, hb⟩; have n0_ := Aside0.mk (below_step (by repeat (first | (with_reducible first | exact HB.out | apply below_alloc | apply pw_below_drewN | apply below_drew1) | exact HB.out)) hb); clear HB; have HB := n0_; clear n0_; (try clear hb); (try clear hb2); (try clear hk); (try clear hi))))
    go_ret
    exact ⟨by first | rfl | (simp [errW_none, errW_some] <;> rfl) | (simp [*, errW_none, errW_some] <;> rfl), by repeat (first | (with_reducible first | exact HB.out | apply below_alloc | apply pw_below_drewN | apply below_drew1) | exact HB.out)⟩
  · rw [if_neg c4] at H
    have c4b0 : decide (40 < (a2.size : Int)) = false := decide_eq_false c4
    have c4b1 : decide (40 < a2.size) = false := decide_eq_false (by omega)
    clear c4
    replace H := Option.bind_eq_some_iff.mp H
    obtain ⟨⟨t125, t128⟩, A70, H⟩ := H
    replace H : (if a0 < (-1) then (polyglotlaw07_KnownMakes.j0 k a0 a1 a2 t125 t128 true) else (if a0 > 255 then (polyglotlaw07_KnownMakes.j0 k a0 a1 a2 t125 t128 true) else (if a1 < (-1) then (polyglotlaw07_KnownMakes.j0 k a0 a1 a2 t125 t128 true) else (polyglotlaw07_KnownMakes.j0 k a0 a1 a2 t125 t128 (decide (a1 > 65535)))))) = some r := H
    have A7 := Aside0.mk A70
    clear A70
    have HC8 := Aside0.mk H
    clear H
    go_enter Try.func7, Try.ntmps7
    go_upto_region 4 with (first | (go_at_call 38; (with_reducible refine (known_Make.calls k a0 a1 a2 t125 t128 _ A7.out).mono ?_); rintro e w9 ⟨v126, rfl, ho0, hb⟩; have n0_ := Aside0.mk (Kd.N_lower (Kd.N_mono (ok' := fun k_ => True) ho0 (fun k_ hk_ => trivial)) (below_size (by repeat (first | (with_reducible first | exact HB.out | apply below_alloc | apply pw_below_drewN | apply below_drew1) | exact HB.out)))); have n1_ := Aside0.mk (below_step (by repeat (first | (with_reducible first | exact HB.out | apply below_alloc | apply pw_below_drewN | apply below_drew1) | exact HB.out)) hb); clear HB; have HO127 := n0_; have HB := n1_; clear n0_ n1_; (try clear hb); (try clear hb2); (try clear hk); (try clear hi); (try clear ho0)))
    repeat (go_quiet (first | (go_at_call 38; (with_reducible refine (known_Make.calls k a0 a1 a2 t125 t128 _ A7.out).mono ?_); rintro e w9 ⟨v126, rfl, ho0, hb⟩; have n0_ := Aside0.mk (Kd.N_lower (Kd.N_mono (ok' := fun k_ => True) ho0 (fun k_ hk_ => trivial)) (below_size (by repeat (first | (with_reducible first | exact HB.out | apply below_alloc | apply pw_below_drewN | apply below_drew1) | exact HB.out)))); have n1_ := Aside0.mk (below_step (by repeat (first | (with_reducible first | exact HB.out | apply below_alloc | apply pw_below_drewN | apply below_drew1) | exact HB.out)) hb); clear HB; have HO127 := n0_; have HB := n1_; clear n0_ n1_; (try clear hb); (try clear hb2); (try clear hk); (try clear hi); (try clear ho0))); go_upto_region 4 with (first | (go_at_call 38; (with_reducible refine (known_Make.calls k a0 a1 a2 t125 t128 _ A7.out).mono ?_); rintro e w9 ⟨v126, rfl, ho0, hb⟩; have n0_ := Aside0.mk (Kd.N_lower (Kd.N_mono (ok' := fun k_ => True) ho0 (fun k_ hk_ => trivial)) (below_size (by repeat (first | (with_reducible first | exact HB.out | apply below_alloc | apply pw_below_drewN | apply below_drew1) | exact HB.out)))); have n1_ := Aside0.mk (below_step (by repeat (first | (with_reducible first | exact HB.out | apply below_alloc | apply pw_below_drewN | apply below_drew1) | exact HB.out)) hb); clear HB; have HO127 := n0_; have HB := n1_; clear n0_ n1_; (try clear hb); (try clear hb2); (try clear hk); (try clear hi); (try clear ho0))))
    (try simp only [Act.put, List.setIfInBounds_toArray, List.set_cons_zero, List.set_cons_succ])
    go_cut [41] (fun v41 wc => ∃ (kq : Nat) (x41_7 : Bool), v41 = .bool x41_7 ∧ Aside0 (polyglotlaw07_KnownMakes.j0 kq a0 a1 a2 t125 t128 x41_7 = some r) ∧ Aside0 (kq ≤ k) ∧ Aside0 (Kd.N k40 40 wc w.heap.size (fun _ => True) v126 t125) ∧ Aside0 (Below w.heap.size w wc))
    case first =>
      have H := HC8.out
      clear HC8
      by_cases c10 : a0 < (-1)
      · rw [if_pos c10] at H
        have c10b0 : decide (a0 < (-1)) = true := decide_eq_true c10
        clear c10
        (first | rw [c10b0] | (simp only [i64_w, i32_w]; rw [c10b0]) | skip)
        have H' := Aside0.mk H
        clear H
        go_wp2
        repeat (go_quiet (fail); try go_wp2)
        go_meet
        case rel => exact ⟨_, (true), (by first | rfl | (simp; done) | (simp [*]; done)), H', ⟨by first | omega | exact Nat.le_refl _⟩, ⟨by (with_reducible repeat (first | apply Kd.N_alloc | apply Kd.N_drewN | apply Kd.N_drew)); exact HO127.out⟩, ⟨by repeat (first | (with_reducible first | exact HB.out | apply below_alloc | apply pw_below_drewN | apply below_drew1) | exact HB.out)⟩⟩
      · rw [if_neg c10] at H
        have c10b0 : decide (a0 < (-1)) = false := decide_eq_false c10
        clear c10
        (first | rw [c10b0] | (simp only [i64_w, i32_w]; rw [c10b0]) | skip)
        by_cases c11 : a0 > 255
        · rw [if_pos c11] at H
          have c11b0 : decide (255 < a0) = true := decide_eq_true c11
          clear c11
          have H' := Aside0.mk H
          clear H
          go_wp2
          repeat (go_quiet (fail); try go_wp2)
          go_meet
          case rel => exact ⟨_, (true), (by first | rfl | (simp; done) | (simp [*]; done)), H', ⟨by first | omega | exact Nat.le_refl _⟩, ⟨by (with_reducible repeat (first | apply Kd.N_alloc | apply Kd.N_drewN | apply Kd.N_drew)); exact HO127.out⟩, ⟨by repeat (first | (with_reducible first | exact HB.out | apply below_alloc | apply pw_below_drewN | apply below_drew1) | exact HB.out)⟩⟩
        · rw [if_neg c11] at H
          have c11b0 : decide (255 < a0) = false := decide_eq_false c11
          clear c11
          by_cases c12 : a1 < (-1)
          · rw [if_pos c12] at H
            have c12b0 : decide (a1 < (-1)) = true := decide_eq_true c12
            clear c12
            have H' := Aside0.mk H
            clear H
            go_wp2
            repeat (go_quiet (fail); try go_wp2)
            go_meet
            case rel => exact ⟨_, (true), (by first | rfl | (simp; done) | (simp [*]; done)), H', ⟨by first | omega | exact Nat.le_refl _⟩, ⟨by (with_reducible repeat (first | apply Kd.N_alloc | apply Kd.N_drewN | apply Kd.N_drew)); exact HO127.out⟩, ⟨by repeat (first | (with_reducible first | exact HB.out | apply below_alloc | apply pw_below_drewN | apply below_drew1) | exact HB.out)⟩⟩
          · rw [if_neg c12] at H
            have c12b0 : decide (a1 < (-1)) = false := decide_eq_false c12
            clear c12
            have H' := Aside0.mk H
            clear H
            go_wp2
            repeat (go_quiet (fail); try go_wp2)
            go_meet
            case rel => exact ⟨_, (decide (a1 > 65535)), (by first | rfl | (simp; done) | (simp [*]; done)), H', ⟨by first | omega | exact Nat.le_refl _⟩, ⟨by (with_reducible repeat (first | apply Kd.N_alloc | apply Kd.N_drewN | apply Kd.N_drew)); exact HO127.out⟩, ⟨by repeat (first | (with_reducible first | exact HB.out | apply below_alloc | apply pw_below_drewN | apply below_drew1) | exact HB.out)⟩⟩
    case rest =>
      clear HC8
      try clear c1
      try clear p2
      try clear c4
      try clear c4b0
      try clear c4b1
      try clear c7
      try clear c10
      try clear c10b0
      try clear c11
      try clear c11b0
      try clear c12
      try clear c12b0
      obtain ⟨kq, x41_7, rfl, HA, HJ7, HO_7, HB⟩ := hcut
      cases kq with
      | zero => exact absurd HA.out (by simp [polyglotlaw07_KnownMakes.j0])
      | succ kj7 =>
        have H := HA.out
        clear HA
        simp only [polyglotlaw07_KnownMakes.j0] at H
        by_cases c13 : x41_7 = true
        · subst c13
          have H1 : (if (t125.length : Int) = 0 then (if t128 = 5 then ((polyglotlaw07_awake.f).bind fun t129 => (some t129)) else (some false)) else (some false)) = some r := by rw [if_pos rfl] at H; exact H
          clear H
          have H := H1
          clear H1
          by_cases c14 : (t125.length : Int) = 0
          · rw [if_pos c14] at H
            have c14b0 : ((t125.length : Int) == 0) = true := beq_iff_eq.mpr c14
            have c14b1 : ((t125.length : Int) != 0) = false := bne_eq_false_iff_eq.mpr c14
            clear c14
            by_cases c15 : t128 = 5
            · rw [if_pos c15] at H
              have c15b0 : (t128 == 5) = true := beq_iff_eq.mpr c15
              have c15b1 : (t128 != 5) = false := bne_eq_false_iff_eq.mpr c15
              clear c15
              replace H := Option.bind_eq_some_iff.mp H
              obtain ⟨t129, A160, H⟩ := H
              replace H : (some t129) = some r := H
              have A16 := Aside0.mk A160
              clear A160
              obtain rfl := Option.some.inj H
              obtain ⟨Ao17, co17, eo17⟩ := Kd.N_slice HO_7.out
              subst eo17
              go_wp2_with (first | (go_at_call 22; (with_reducible refine (polyglotlaw07_awake.calls  t129 _ A16.out).mono ?_); rintro e w18 ⟨rfl, hb⟩; have n0_ := Aside0.mk (Kd.N_below (by (with_reducible repeat (first | apply Kd.N_alloc | apply Kd.N_drewN | apply Kd.N_drew)); exact HO_7.out) hb); have n1_ := Aside0.mk (below_step (by repeat (first | (with_reducible first | exact HB.out | apply below_alloc | apply pw_below_drewN | apply below_drew1) | exact HB.out)) hb); clear HO_7; clear HB; have HO_7 := n0_; have HB := n1_; clear n0_ n1_; (try clear hb); (try clear hb2); (try clear hk); (try clear hi)))
              repeat (go_quiet (first | (go_at_call 22; (with_reducible refine (polyglotlaw07_awake.calls  t129 _ A16.out).mono ?_); rintro e w18 ⟨rfl, hb⟩; have n0_ := Aside0.mk (Kd.N_below (by (with_reducible repeat (first | apply Kd.N_alloc | apply Kd.N_drewN | apply Kd.N_drew)); exact HO_7.out) hb); have n1_ := Aside0.mk (below_step (by repeat (first | (with_reducible first | exact HB.out | apply below_alloc | apply pw_below_drewN | apply below_drew1) | exact HB.out)) hb); clear HO_7; clear HB; have HO_7 := n0_; have HB := n1_; clear n0_ n1_; (try clear hb); (try clear hb2); (try clear hk); (try clear hi))); try go_wp2_with (first | (go_at_call 22; (with_reducible refine (polyglotlaw07_awake.calls  t129 _ A16.out).mono ?_); rintro e w18 ⟨rfl, hb⟩; have n0_ := Aside0.mk (Kd.N_below (by (with_reducible repeat (first | apply Kd.N_alloc | apply Kd.N_drewN | apply Kd.N_drew)); exact HO_7.out) hb); have n1_ := Aside0.mk (below_step (by repeat (first | (with_reducible first | exact HB.out | apply below_alloc | apply pw_below_drewN | apply below_drew1) | exact HB.out)) hb); clear HO_7; clear HB; have HO_7 := n0_; have HB := n1_; clear n0_ n1_; (try clear hb); (try clear hb2); (try clear hk); (try clear hi))))
              go_ret
              exact ⟨by first | rfl | (simp [errW_none, errW_some] <;> rfl) | (simp [*, errW_none, errW_some] <;> rfl), by repeat (first | (with_reducible first | exact HB.out | apply below_alloc | apply pw_below_drewN | apply below_drew1) | exact HB.out)⟩
            · rw [if_neg c15] at H
              have c15b0 : (t128 == 5) = false := beq_eq_false_iff_ne.mpr c15
              have c15b1 : (t128 != 5) = true := bne_iff_ne.mpr c15
              obtain rfl := Option.some.inj H
              obtain ⟨Ao19, co19, eo19⟩ := Kd.N_slice HO_7.out
              subst eo19
              go_wp2
              repeat (go_quiet (fail); try go_wp2)
              go_ret
              exact ⟨by first | rfl | (simp [errW_none, errW_some] <;> rfl) | (simp [*, errW_none, errW_some] <;> rfl), by repeat (first | (with_reducible first | exact HB.out | apply below_alloc | apply pw_below_drewN | apply below_drew1) | exact HB.out)⟩
          · rw [if_neg c14] at H
            have c14b0 : ((t125.length : Int) == 0) = false := beq_eq_false_iff_ne.mpr c14
            have c14b1 : ((t125.length : Int) != 0) = true := bne_iff_ne.mpr c14
            have c14b2 : ¬ (t125 = []) := fun h_ => c14 (by rw [h_]; rfl)
            obtain rfl := Option.some.inj H
            obtain ⟨Ao20, co20, eo20⟩ := Kd.N_slice HO_7.out
            subst eo20
            go_wp2
            repeat (go_quiet (fail); try go_wp2)
            go_ret
            exact ⟨by first | rfl | (simp [errW_none, errW_some] <;> rfl) | (simp [*, errW_none, errW_some] <;> rfl), by repeat (first | (with_reducible first | exact HB.out | apply below_alloc | apply pw_below_drewN | apply below_drew1) | exact HB.out)⟩
        · replace c13 := Bool.eq_false_iff.mpr c13
          subst c13
          have H1 : ((polyglotlaw07_plain.f kj7 a2).bind fun t130 => (if t130 = true then ((known_ZoneOf.f kj7 t125).bind fun bt132 => ((known_LoadOf.f kj7 t125).bind fun bt134 => ((known_BuildOf.f kj7 t125).bind fun bt136 => (if a0 ≥ 0 then (polyglotlaw07_KnownMakes.j1 kj7 a0 a1 a2 t125 t128 bt132.1 bt132.2 bt134.1 bt134.2 bt136.1 bt136.2 (0 + 1)) else (polyglotlaw07_KnownMakes.j1 kj7 a0 a1 a2 t125 t128 bt132.1 bt132.2 bt134.1 bt134.2 bt136.1 bt136.2 0))))) else (if (t125.length : Int) = 0 then (if t128 = 4 then ((polyglotlaw07_awake.f).bind fun t131 => (some t131)) else (some false)) else (some false)))) = some r := by rw [if_neg (show ¬ (false = true) by decide)] at H; exact H
          clear H
          have H := H1
          clear H1
          replace H := Option.bind_eq_some_iff.mp H
          obtain ⟨t130, A210, H⟩ := H
          replace H : (if t130 = true then ((known_ZoneOf.f kj7 t125).bind fun bt132 => ((known_LoadOf.f kj7 t125).bind fun bt134 => ((known_BuildOf.f kj7 t125).bind fun bt136 => (if a0 ≥ 0 then (polyglotlaw07_KnownMakes.j1 kj7 a0 a1 a2 t125 t128 bt132.1 bt132.2 bt134.1 bt134.2 bt136.1 bt136.2 (0 + 1)) else (polyglotlaw07_KnownMakes.j1 kj7 a0 a1 a2 t125 t128 bt132.1 bt132.2 bt134.1 bt134.2 bt136.1 bt136.2 0))))) else (if (t125.length : Int) = 0 then (if t128 = 4 then ((polyglotlaw07_awake.f).bind fun t131 => (some t131)) else (some false)) else (some false))) = some r := H
          have A21 := Aside0.mk A210
          clear A210
          by_cases c22 : t130 = true
          · subst c22
            have H1 : ((known_ZoneOf.f kj7 t125).bind fun bt132 => ((known_LoadOf.f kj7 t125).bind fun bt134 => ((known_BuildOf.f kj7 t125).bind fun bt136 => (if a0 ≥ 0 then (polyglotlaw07_KnownMakes.j1 kj7 a0 a1 a2 t125 t128 bt132.1 bt132.2 bt134.1 bt134.2 bt136.1 bt136.2 (0 + 1)) else (polyglotlaw07_KnownMakes.j1 kj7 a0 a1 a2 t125 t128 bt132.1 bt132.2 bt134.1 bt134.2 bt136.1 bt136.2 0))))) = some r := by rw [if_pos rfl] at H; exact H
            clear H
            have H := H1
            clear H1
            replace H := Option.bind_eq_some_iff.mp H
            obtain ⟨⟨t132, t133⟩, A230, H⟩ := H
            replace H : ((known_LoadOf.f kj7 t125).bind fun bt134 => ((known_BuildOf.f kj7 t125).bind fun bt136 => (if a0 ≥ 0 then (polyglotlaw07_KnownMakes.j1 kj7 a0 a1 a2 t125 t128 t132 t133 bt134.1 bt134.2 bt136.1 bt136.2 (0 + 1)) else (polyglotlaw07_KnownMakes.j1 kj7 a0 a1 a2 t125 t128 t132 t133 bt134.1 bt134.2 bt136.1 bt136.2 0)))) = some r := H
            have A23 := Aside0.mk A230
            clear A230
            replace H := Option.bind_eq_some_iff.mp H
            obtain ⟨⟨t134, t135⟩, A240, H⟩ := H
            replace H : ((known_BuildOf.f kj7 t125).bind fun bt136 => (if a0 ≥ 0 then (polyglotlaw07_KnownMakes.j1 kj7 a0 a1 a2 t125 t128 t132 t133 t134 t135 bt136.1 bt136.2 (0 + 1)) else (polyglotlaw07_KnownMakes.j1 kj7 a0 a1 a2 t125 t128 t132 t133 t134 t135 bt136.1 bt136.2 0))) = some r := H
            have A24 := Aside0.mk A240
            clear A240
            replace H := Option.bind_eq_some_iff.mp H
            obtain ⟨⟨t136, t137⟩, A250, H⟩ := H
            replace H : (if a0 ≥ 0 then (polyglotlaw07_KnownMakes.j1 kj7 a0 a1 a2 t125 t128 t132 t133 t134 t135 t136 t137 (0 + 1)) else (polyglotlaw07_KnownMakes.j1 kj7 a0 a1 a2 t125 t128 t132 t133 t134 t135 t136 t137 0)) = some r := H
            have A25 := Aside0.mk A250
            clear A250
            have HC26 := Aside0.mk H
            clear H
            go_upto_if 81 with (first | (go_at_call 37; (with_reducible refine (polyglotlaw07_plain.calls kj7 a2 true _ A21.out).mono ?_); rintro e w' ⟨rfl, ⟨nd, rfl⟩⟩; (try first | exact ⟨rfl, _, World.drewN_drewN _ _ _⟩ | exact ⟨rfl, _, Eq.trans (World.drewN_drewN _ _ _) (congrArg (World.drewN _) (Nat.add_assoc _ _ _))⟩); obtain ⟨Ao27, co27, eo27⟩ := Kd.N_slice HO_7.out; subst eo27) | (go_at_call 33; (with_reducible refine (known_ZoneOf.calls kj7 _ _ t125 t132 t133 _ ?side1 ?side2 A23.out).mono ?_); (case side1 => repeat (first | exact (Kd.N_reads' HO_7.out).2.2 | (with_reducible refine Kd.C_alloc ?_ _) | (with_reducible refine Kd.C_drewN ?_ _) | (with_reducible refine Kd.C_drew ?_))); (case side2 => exact (Kd.N_reads' HO_7.out).2.1); rintro e w28 ⟨rfl, hb⟩; have n0_ := Aside0.mk (Kd.N_below (by (with_reducible repeat (first | apply Kd.N_alloc | apply Kd.N_drewN | apply Kd.N_drew)); exact HO_7.out) hb); have n1_ := Aside0.mk (below_step (by repeat (first | (with_reducible first | exact HB.out | apply below_alloc | apply pw_below_drewN | apply below_drew1) | exact HB.out)) hb); clear HO_7; clear HB; have HO_7 := n0_; have HB := n1_; clear n0_ n1_; (try clear hb); (try clear hb2); (try clear hk); (try clear hi)) | (go_at_call 34; (with_reducible refine (known_LoadOf.calls kj7 _ _ t125 t134 t135 _ ?side1 ?side2 A24.out).mono ?_); (case side1 => repeat (first | exact (Kd.N_reads' HO_7.out).2.2 | (with_reducible refine Kd.C_alloc ?_ _) | (with_reducible refine Kd.C_drewN ?_ _) | (with_reducible refine Kd.C_drew ?_))); (case side2 => exact (Kd.N_reads' HO_7.out).2.1); rintro e w29 ⟨rfl, hb⟩; have n0_ := Aside0.mk (Kd.N_below (by (with_reducible repeat (first | apply Kd.N_alloc | apply Kd.N_drewN | apply Kd.N_drew)); exact HO_7.out) hb); have n1_ := Aside0.mk (below_step (by repeat (first | (with_reducible first | exact HB.out | apply below_alloc | apply pw_below_drewN | apply below_drew1) | exact HB.out)) hb); clear HO_7; clear HB; have HO_7 := n0_; have HB := n1_; clear n0_ n1_; (try clear hb); (try clear hb2); (try clear hk); (try clear hi)) | (go_at_call 35; (with_reducible refine (known_BuildOf.calls kj7 _ _ t125 t136 t137 _ ?side1 ?side2 A25.out).mono ?_); (case side1 => repeat (first | exact (Kd.N_reads' HO_7.out).2.2 | (with_reducible refine Kd.C_alloc ?_ _) | (with_reducible refine Kd.C_drewN ?_ _) | (with_reducible refine Kd.C_drew ?_))); (case side2 => exact (Kd.N_reads' HO_7.out).2.1); rintro e w30 ⟨rfl, hb⟩; have n0_ := Aside0.mk (Kd.N_below (by (with_reducible repeat (first | apply Kd.N_alloc | apply Kd.N_drewN | apply Kd.N_drew)); exact HO_7.out) hb); have n1_ := Aside0.mk (below_step (by repeat (first | (with_reducible first | exact HB.out | apply below_alloc | apply pw_below_drewN | apply below_drew1) | exact HB.out)) hb); clear HO_7; clear HB; have HO_7 := n0_; have HB := n1_; clear n0_ n1_; (try clear hb); (try clear hb2); (try clear hk); (try clear hi)))
            repeat (go_quiet (first | (go_at_call 37; (with_reducible refine (polyglotlaw07_plain.calls kj7 a2 true _ A21.out).mono ?_); rintro e w' ⟨rfl, ⟨nd, rfl⟩⟩; (try first | exact ⟨rfl, _, World.drewN_drewN _ _ _⟩ | exact ⟨rfl, _, Eq.trans (World.drewN_drewN _ _ _) (congrArg (World.drewN _) (Nat.add_assoc _ _ _))⟩); obtain ⟨Ao27, co27, eo27⟩ := Kd.N_slice HO_7.out; subst eo27) | (go_at_call 33; (with_reducible refine (known_ZoneOf.calls kj7 _ _ t125 t132 t133 _ ?side1 ?side2 A23.out).mono ?_); (case side1 => repeat (first | exact (Kd.N_reads' HO_7.out).2.2 | (with_reducible refine Kd.C_alloc ?_ _) | (with_reducible refine Kd.C_drewN ?_ _) | (with_reducible refine Kd.C_drew ?_))); (case side2 => exact (Kd.N_reads' HO_7.out).2.1); rintro e w28 ⟨rfl, hb⟩; have n0_ := Aside0.mk (Kd.N_below (by (with_reducible repeat (first | apply Kd.N_alloc | apply Kd.N_drewN | apply Kd.N_drew)); exact HO_7.out) hb); have n1_ := Aside0.mk (below_step (by repeat (first | (with_reducible first | exact HB.out | apply below_alloc | apply pw_below_drewN | apply below_drew1) | exact HB.out)) hb); clear HO_7; clear HB; have HO_7 := n0_; have HB := n1_; clear n0_ n1_; (try clear hb); (try clear hb2); (try clear hk); (try clear hi)) | (go_at_call 34; (with_reducible refine (known_LoadOf.calls kj7 _ _ t125 t134 t135 _ ?side1 ?side2 A24.out).mono ?_); (case side1 => repeat (first | exact (Kd.N_reads' HO_7.out).2.2 | (with_reducible refine Kd.C_alloc ?_ _) | (with_reducible refine Kd.C_drewN ?_ _) | (with_reducible refine Kd.C_drew ?_))); (case side2 => exact (Kd.N_reads' HO_7.out).2.1); rintro e w29 ⟨rfl, hb⟩; have n0_ := Aside0.mk (Kd.N_below (by (with_reducible repeat (first | apply Kd.N_alloc | apply Kd.N_drewN | apply Kd.N_drew)); exact HO_7.out) hb); have n1_ := Aside0.mk (below_step (by repeat (first | (with_reducible first | exact HB.out | apply below_alloc | apply pw_below_drewN | apply below_drew1) | exact HB.out)) hb); clear HO_7; clear HB; have HO_7 := n0_; have HB := n1_; clear n0_ n1_; (try clear hb); (try clear hb2); (try clear hk); (try clear hi)) | (go_at_call 35; (with_reducible refine (known_BuildOf.calls kj7 _ _ t125 t136 t137 _ ?side1 ?side2 A25.out).mono ?_); (case side1 => repeat (first | exact (Kd.N_reads' HO_7.out).2.2 | (with_reducible refine Kd.C_alloc ?_ _) | (with_reducible refine Kd.C_drewN ?_ _) | (with_reducible refine Kd.C_drew ?_))); (case side2 => exact (Kd.N_reads' HO_7.out).2.1); rintro e w30 ⟨rfl, hb⟩; have n0_ := Aside0.mk (Kd.N_below (by (with_reducible repeat (first | apply Kd.N_alloc | apply Kd.N_drewN | apply Kd.N_drew)); exact HO_7.out) hb); have n1_ := Aside0.mk (below_step (by repeat (first | (with_reducible first | exact HB.out | apply below_alloc | apply pw_below_drewN | apply below_drew1) | exact HB.out)) hb); clear HO_7; clear HB; have HO_7 := n0_; have HB := n1_; clear n0_ n1_; (try clear hb); (try clear hb2); (try clear hk); (try clear hi))); go_upto_if 81 with (first | (go_at_call 37; (with_reducible refine (polyglotlaw07_plain.calls kj7 a2 true _ A21.out).mono ?_); rintro e w' ⟨rfl, ⟨nd, rfl⟩⟩; (try first | exact ⟨rfl, _, World.drewN_drewN _ _ _⟩ | exact ⟨rfl, _, Eq.trans (World.drewN_drewN _ _ _) (congrArg (World.drewN _) (Nat.add_assoc _ _ _))⟩); obtain ⟨Ao27, co27, eo27⟩ := Kd.N_slice HO_7.out; subst eo27) | (go_at_call 33; (with_reducible refine (known_ZoneOf.calls kj7 _ _ t125 t132 t133 _ ?side1 ?side2 A23.out).mono ?_); (case side1 => repeat (first | exact (Kd.N_reads' HO_7.out).2.2 | (with_reducible refine Kd.C_alloc ?_ _) | (with_reducible refine Kd.C_drewN ?_ _) | (with_reducible refine Kd.C_drew ?_))); (case side2 => exact (Kd.N_reads' HO_7.out).2.1); rintro e w28 ⟨rfl, hb⟩; have n0_ := Aside0.mk (Kd.N_below (by (with_reducible repeat (first | apply Kd.N_alloc | apply Kd.N_drewN | apply Kd.N_drew)); exact HO_7.out) hb); have n1_ := Aside0.mk (below_step (by repeat (first | (with_reducible first | exact HB.out | apply below_alloc | apply pw_below_drewN | apply below_drew1) | exact HB.out)) hb); clear HO_7; clear HB; have HO_7 := n0_; have HB := n1_; clear n0_ n1_; (try clear hb); (try clear hb2); (try clear hk); (try clear hi)) | (go_at_call 34; (with_reducible refine (known_LoadOf.calls kj7 _ _ t125 t134 t135 _ ?side1 ?side2 A24.out).mono ?_); (case side1 => repeat (first | exact (Kd.N_reads' HO_7.out).2.2 | (with_reducible refine Kd.C_alloc ?_ _) | (with_reducible refine Kd.C_drewN ?_ _) | (with_reducible refine Kd.C_drew ?_))); (case side2 => exact (Kd.N_reads' HO_7.out).2.1); rintro e w29 ⟨rfl, hb⟩; have n0_ := Aside0.mk (Kd.N_below (by (with_reducible repeat (first | apply Kd.N_alloc | apply Kd.N_drewN | apply Kd.N_drew)); exact HO_7.out) hb); have n1_ := Aside0.mk (below_step (by repeat (first | (with_reducible first | exact HB.out | apply below_alloc | apply pw_below_drewN | apply below_drew1) | exact HB.out)) hb); clear HO_7; clear HB; have HO_7 := n0_; have HB := n1_; clear n0_ n1_; (try clear hb); (try clear hb2); (try clear hk); (try clear hi)) | (go_at_call 35; (with_reducible refine (known_BuildOf.calls kj7 _ _ t125 t136 t137 _ ?side1 ?side2 A25.out).mono ?_); (case side1 => repeat (first | exact (Kd.N_reads' HO_7.out).2.2 | (with_reducible refine Kd.C_alloc ?_ _) | (with_reducible refine Kd.C_drewN ?_ _) | (with_reducible refine Kd.C_drew ?_))); (case side2 => exact (Kd.N_reads' HO_7.out).2.1); rintro e w30 ⟨rfl, hb⟩; have n0_ := Aside0.mk (Kd.N_below (by (with_reducible repeat (first | apply Kd.N_alloc | apply Kd.N_drewN | apply Kd.N_drew)); exact HO_7.out) hb); have n1_ := Aside0.mk (below_step (by repeat (first | (with_reducible first | exact HB.out | apply below_alloc | apply pw_below_drewN | apply below_drew1) | exact HB.out)) hb); clear HO_7; clear HB; have HO_7 := n0_; have HB := n1_; clear n0_ n1_; (try clear hb); (try clear hb2); (try clear hk); (try clear hi))))
            (try simp only [Act.put, List.setIfInBounds_toArray, List.set_cons_zero, List.set_cons_succ])
            go_cut [15] (fun v15 wc => ∃ (kq : Nat) (x15_25 : Int), v15 = .int .i64 x15_25 ∧ Aside0 (polyglotlaw07_KnownMakes.j1 kq a0 a1 a2 t125 t128 t132 t133 t134 t135 t136 t137 x15_25 = some r) ∧ Aside0 (kq ≤ kj7) ∧ Aside0 (Kd.N k40 40 wc w.heap.size (fun _ => True) (.slice Ao27 t125.length co27) t125) ∧ Aside0 (Below w.heap.size w wc))
            case first =>
              have H := HC26.out
              clear HC26
              by_cases c31 : a0 ≥ 0
              · rw [if_pos c31] at H
                have c31b0 : decide (0 ≤ a0) = true := decide_eq_true c31
                clear c31
                (first | rw [c31b0] | (simp only [i64_w, i32_w]; rw [c31b0]) | skip)
                have H' := Aside0.mk H
                clear H
                go_wp2
                repeat (go_quiet (fail); try go_wp2)
                go_meet
                case rel => exact ⟨_, (0 + 1), (by first | rfl | (simp; done) | (simp [*]; done)), H', ⟨by have := HJ7.out; first | omega | exact Nat.le_refl _⟩, ⟨by (with_reducible repeat (first | apply Kd.N_alloc | apply Kd.N_drewN | apply Kd.N_drew)); exact HO_7.out⟩, ⟨by repeat (first | (with_reducible first | exact HB.out | apply below_alloc | apply pw_below_drewN | apply below_drew1) | exact HB.out)⟩⟩
              · rw [if_neg c31] at H
                have c31b0 : decide (0 ≤ a0) = false := decide_eq_false c31
                clear c31
                (first | rw [c31b0] | (simp only [i64_w, i32_w]; rw [c31b0]) | skip)
                have H' := Aside0.mk H
                clear H
                go_wp2
                repeat (go_quiet (fail); try go_wp2)
                go_meet
                case rel => exact ⟨_, (0), (by first | rfl | (simp; done) | (simp [*]; done)), H', ⟨by have := HJ7.out; first | omega | exact Nat.le_refl _⟩, ⟨by (with_reducible repeat (first | apply Kd.N_alloc | apply Kd.N_drewN | apply Kd.N_drew)); exact HO_7.out⟩, ⟨by repeat (first | (with_reducible first | exact HB.out | apply below_alloc | apply pw_below_drewN | apply below_drew1) | exact HB.out)⟩⟩
            case rest =>
              clear HC26
              try clear c1
              try clear c2
              try clear p2
              try clear c3
              try clear c4
              try clear c4b0
              try clear c4b1
              try clear c7
              try clear c10
              try clear c10b0
              try clear c11
              try clear c11b0
              try clear c12
              try clear c12b0
              try clear c13
              try clear c14
              try clear c14b0
              try clear c14b1
              try clear c14b2
              try clear c15
              try clear c15b0
              try clear c15b1
              try clear c22
              try clear c31
              try clear c31b0
              try clear p2
              obtain ⟨kq, x15_25, rfl, HA, HJ25, HO_7, HB⟩ := hcut
              cases kq with
              | zero => exact absurd HA.out (by simp [polyglotlaw07_KnownMakes.j1])
              | succ kj25 =>
                have H := HA.out
                clear HA
                simp only [polyglotlaw07_KnownMakes.j1] at H
                have HC32 := Aside0.mk H
                clear H
                go_upto_if 85 with (fail)
                repeat (go_quiet (fail); go_upto_if 85 with (fail))
                go_cut [15] (fun v15 wc => ∃ (kq : Nat) (x15_31 : Int), v15 = .int .i64 x15_31 ∧ Aside0 (polyglotlaw07_KnownMakes.j2 kq a0 a1 a2 t125 t128 t132 t133 t134 t135 t136 t137 x15_31 = some r) ∧ Aside0 (kq ≤ kj25) ∧ Aside0 (Kd.N k40 40 wc w.heap.size (fun _ => True) (.slice Ao27 t125.length co27) t125) ∧ Aside0 (Below w.heap.size w wc))
                case first =>
                  have H := HC32.out
                  clear HC32
                  by_cases c33 : a1 ≥ 0
                  · rw [if_pos c33] at H
                    have c33b0 : decide (0 ≤ a1) = true := decide_eq_true c33
                    clear c33
                    (first | rw [c33b0] | (simp only [i64_w, i32_w]; rw [c33b0]) | skip)
                    have H' := Aside0.mk H
                    clear H
                    go_wp2
                    repeat (go_quiet (fail); try go_wp2)
                    go_meet
                    case rel => exact ⟨_, (wrap64 (x15_25 + 1)), (by first | rfl | (simp; done) | (simp [*]; done)), H', ⟨by have := HJ7.out; have := HJ25.out; first | omega | exact Nat.le_refl _⟩, ⟨by (with_reducible repeat (first | apply Kd.N_alloc | apply Kd.N_drewN | apply Kd.N_drew)); exact HO_7.out⟩, ⟨by repeat (first | (with_reducible first | exact HB.out | apply below_alloc | apply pw_below_drewN | apply below_drew1) | exact HB.out)⟩⟩
                  · rw [if_neg c33] at H
                    have c33b0 : decide (0 ≤ a1) = false := decide_eq_false c33
                    clear c33
                    (first | rw [c33b0] | (simp only [i64_w, i32_w]; rw [c33b0]) | skip)
                    have H' := Aside0.mk H
                    clear H
                    go_wp2
                    repeat (go_quiet (fail); try go_wp2)
                    go_meet
                    case rel => exact ⟨_, (x15_25), (by first | rfl | (simp; done) | (simp [*]; done)), H', ⟨by have := HJ7.out; have := HJ25.out; first | omega | exact Nat.le_refl _⟩, ⟨by (with_reducible repeat (first | apply Kd.N_alloc | apply Kd.N_drewN | apply Kd.N_drew)); exact HO_7.out⟩, ⟨by repeat (first | (with_reducible first | exact HB.out | apply below_alloc | apply pw_below_drewN | apply below_drew1) | exact HB.out)⟩⟩
                case rest =>
                  clear HC32
                  try clear c1
                  try clear c2
                  try clear p2
                  try clear c3
                  try clear c4
                  try clear c4b0
                  try clear c4b1
                  try clear p6
                  try clear c7
                  try clear c10
                  try clear c10b0
                  try clear c11
                  try clear c11b0
                  try clear c12
                  try clear c12b0
                  try clear c13
                  try clear c14
                  try clear c14b0
                  try clear c14b1
                  try clear c14b2
                  try clear c15
                  try clear c15b0
                  try clear c15b1
                  try clear c22
                  try clear c31
                  try clear c31b0
                  try clear c33
                  try clear c33b0
                  try clear p2
                  obtain ⟨kq, x15_31, rfl, HA, HJ31, HO_7, HB⟩ := hcut
                  cases kq with
                  | zero => exact absurd HA.out (by simp [polyglotlaw07_KnownMakes.j2])
                  | succ kj31 =>
                    have H := HA.out
                    clear HA
                    simp only [polyglotlaw07_KnownMakes.j2] at H
                    have HC34 := Aside0.mk H
                    clear H
                    go_upto_if 89 with (fail)
                    repeat (go_quiet (fail); go_upto_if 89 with (fail))
                    go_cut [15] (fun v15 wc => ∃ (kq : Nat) (x15_33 : Int), v15 = .int .i64 x15_33 ∧ Aside0 (polyglotlaw07_KnownMakes.j3 kq a0 a1 a2 t125 t128 t132 t133 t134 t135 t136 t137 x15_33 = some r) ∧ Aside0 (kq ≤ kj31) ∧ Aside0 (Kd.N k40 40 wc w.heap.size (fun _ => True) (.slice Ao27 t125.length co27) t125) ∧ Aside0 (Below w.heap.size w wc))
                    case first =>
                      have H := HC34.out
                      clear HC34
                      by_cases c35 : a2.toList = ([] : List UInt8)
                      · rw [if_pos c35] at H
                        have c35b0 : (a2.toList == ([] : List UInt8)) = true := beq_iff_eq.mpr c35
                        (try have c35b0e : a2.toList.isEmpty = true := by have h_ := c35b0; revert h_; generalize a2.toList = q_; cases q_ <;> simp)
                        have c35b1 : (a2.toList != ([] : List UInt8)) = false := bne_eq_false_iff_eq.mpr c35
                        clear c35
                        (first | rw [c35b0] | (simp only [i64_w, i32_w]; rw [c35b0]) | skip)
                        (try rw [c35b0e])
                        have H' := Aside0.mk H
                        clear H
                        go_wp2
                        repeat (go_quiet (fail); try go_wp2)
                        go_meet
                        case rel => exact ⟨_, (x15_31), (by first | rfl | (simp; done) | (simp [*]; done)), H', ⟨by have := HJ7.out; have := HJ25.out; have := HJ31.out; first | omega | exact Nat.le_refl _⟩, ⟨by (with_reducible repeat (first | apply Kd.N_alloc | apply Kd.N_drewN | apply Kd.N_drew)); exact HO_7.out⟩, ⟨by repeat (first | (with_reducible first | exact HB.out | apply below_alloc | apply pw_below_drewN | apply below_drew1) | exact HB.out)⟩⟩
                      · rw [if_neg c35] at H
                        have c35b0 : (a2.toList == ([] : List UInt8)) = false := beq_eq_false_iff_ne.mpr c35
                        (try have c35b0e : a2.toList.isEmpty = false := by have h_ := c35b0; revert h_; generalize a2.toList = q_; cases q_ <;> simp)
                        have c35b1 : (a2.toList != ([] : List UInt8)) = true := bne_iff_ne.mpr c35
                        (first | rw [c35b0] | (simp only [i64_w, i32_w]; rw [c35b0]) | skip)
                        (try rw [c35b0e])
                        have H' := Aside0.mk H
                        clear H
                        go_wp2
                        repeat (go_quiet (fail); try go_wp2)
                        go_meet
                        case rel => exact ⟨_, (wrap64 (x15_31 + 1)), (by first | rfl | (simp; done) | (simp [*]; done)), H', ⟨by have := HJ7.out; have := HJ25.out; have := HJ31.out; first | omega | exact Nat.le_refl _⟩, ⟨by (with_reducible repeat (first | apply Kd.N_alloc | apply Kd.N_drewN | apply Kd.N_drew)); exact HO_7.out⟩, ⟨by repeat (first | (with_reducible first | exact HB.out | apply below_alloc | apply pw_below_drewN | apply below_drew1) | exact HB.out)⟩⟩
                    case rest =>
                      clear HC34
                      try clear c1
                      try clear c2
                      try clear p2
                      try clear c3
                      try clear c4
                      try clear c4b0
                      try clear c4b1
                      try clear p6
                      try clear c7
                      try clear c10
                      try clear c10b0
                      try clear c11
                      try clear c11b0
                      try clear c12
                      try clear c12b0
                      try clear c13
                      try clear c14
                      try clear c14b0
                      try clear c14b1
                      try clear c14b2
                      try clear c15
                      try clear c15b0
                      try clear c15b1
                      try clear c22
                      try clear c31
                      try clear c31b0
                      try clear c33
                      try clear c33b0
                      try clear c35
                      try clear c35b0
                      try clear c35b1
                      try clear p2
                      try clear p6
                      obtain ⟨kq, x15_33, rfl, HA, HJ33, HO_7, HB⟩ := hcut
                      cases kq with
                      | zero => exact absurd HA.out (by simp [polyglotlaw07_KnownMakes.j3])
                      | succ kj33 =>
                        have H := HA.out
                        clear HA
                        simp only [polyglotlaw07_KnownMakes.j3] at H
                        have H' := Aside0.mk H
                        clear H
                        go_wp2
                        repeat (go_quiet (fail); try go_wp2)
                        go_loopg [16] kj33 (fun kq v16 w' => ∃ (x16_5 : Int), v16 = .int .i64 x16_5 ∧ Aside0 (polyglotlaw07_KnownMakes.l0 kq a0 a1 a2 t125 t128 t132 t133 t134 t135 t136 t137 x15_33 x16_5 = some r) ∧ Aside0 (kq ≤ kj33) ∧ Aside0 (Kd.N k40 40 w' w.heap.size (fun _ => True) (.slice Ao27 t125.length co27) t125) ∧ Aside0 (Below w.heap.size w w'))
                        case atStart => exact ⟨(1), (by first | rfl | (simp; done) | (simp [*]; done)), H', ⟨Nat.le_refl _⟩, ⟨by (with_reducible repeat (first | apply Kd.N_alloc | apply Kd.N_drewN | apply Kd.N_drew)); exact HO_7.out⟩, ⟨by repeat (first | (with_reducible first | exact HB.out | apply below_alloc | apply pw_below_drewN | apply below_drew1) | exact HB.out)⟩⟩
                        case round =>
                          clear H'
                          try clear c1
                          try clear c2
                          try clear p2
                          try clear c3
                          try clear c4
                          try clear c4b0
                          try clear c4b1
                          try clear p6
                          try clear c7
                          try clear c10
                          try clear c10b0
                          try clear c11
                          try clear c11b0
                          try clear c12
                          try clear c12b0
                          try clear c13
                          try clear c14
                          try clear c14b0
                          try clear c14b1
                          try clear c14b2
                          try clear c15
                          try clear c15b0
                          try clear c15b1
                          try clear c22
                          try clear c31
                          try clear c31b0
                          try clear c33
                          try clear c33b0
                          try clear c35
                          try clear c35b0
                          try clear c35b1
                          try clear p2
                          try clear p6
                          obtain ⟨x16_5, rfl, HA, HK5, HO_7, HB⟩ := hrel
                          cases gk with
                          | zero => exact absurd HA.out (by simp [polyglotlaw07_KnownMakes.l0])
                          | succ k5 =>
                            have H := HA.out
                            clear HA
                            simp only [polyglotlaw07_KnownMakes.l0] at H
                            by_cases c36 : x16_5 < (t125.length : Int)
                            · rw [if_pos c36] at H
                              have c36b0 : decide (x16_5 < (t125.length : Int)) = true := decide_eq_true c36
                              clear c36
                              by_cases c37 : 0 ≤ x16_5
                              · rw [if_pos c37] at H
                                have c37b0 : decide (0 ≤ x16_5) = true := decide_eq_true c37
                                clear c37
                                obtain ⟨ji38, hji38⟩ : ∃ j_ : Int, (wrap64 (x16_5 - 1)) = j_ := ⟨_, rfl⟩
                                replace H : (if 0 ≤ (ji38) then (if (ji38) < (t125.length : Int) then (if ((rd_T40 t125 x16_5).f0) ≤ ((rd_T40 t125 (ji38)).f0) then (some false) else (polyglotlaw07_KnownMakes.l0 k5 a0 a1 a2 t125 t128 t132 t133 t134 t135 t136 t137 x15_33 (wrap64 (x16_5 + 1)))) else (none)) else (none)) = some r := by first | (rw [hji38] at H; exact H) | (simp only [hji38] at H ⊢; exact H)
                                have hji38w : (IntKind.i64.wrap (x16_5 - 1)) = ji38 := (i64_w _).trans hji38
                                by_cases c39 : 0 ≤ (ji38)
                                · rw [if_pos c39] at H
                                  have c39b0 : decide (0 ≤ (ji38)) = true := decide_eq_true c39
                                  clear c39
                                  by_cases c40 : (ji38) < (t125.length : Int)
                                  · rw [if_pos c40] at H
                                    have c40b0 : decide ((ji38) < (t125.length : Int)) = true := decide_eq_true c40
                                    clear c40
                                    by_cases c41 : ((rd_T40 t125 x16_5).f0) ≤ ((rd_T40 t125 (ji38)).f0)
                                    · rw [if_pos c41] at H
                                      have c41b0 : decide (((rd_T40 t125 x16_5).f0) ≤ ((rd_T40 t125 (ji38)).f0)) = true := decide_eq_true c41
                                      clear c41
                                      obtain rfl := Option.some.inj H
                                      have p138 : 0 ≤ (x16_5 : Int) := of_decide_eq_true (by first | (with_reducible assumption) | assumption)
                                      have q138 : x16_5 < (t125.length : Int) := of_decide_eq_true (by first | (with_reducible assumption) | assumption)
                                      obtain ⟨ad138, A138_1, c138_1, e138, hx138_0, hx138_1, hl138_1, hi138_1⟩ := at_T40 (Kd.N_reads' HO_7.out).2.2 x16_5 p138 q138
                                      cases e138
                                      obtain ⟨ce138, hce138, hMe138, hcc138⟩ := Kd.N_get HO_7.out z40 x16_5 p138 (by first | exact q138 | exact of_decide_eq_true (by first | (with_reducible assumption) | assumption) | (have e_ := (Kd.N_reads' HO_7.out).1; omega))
                                      obtain ⟨ua138_1, uc138_1, rfl, ul138_1, ge138_1⟩ := k40_openF hMe138
                                      have hv138_1 := hcc138 1 _ rfl
                                      rw [add_field _ _ 1 (by omega)] at hv138_1
                                      replace hv138_1 := Option.some.inj (hv138_1.symm.trans hx138_1)
                                      injection hv138_1 with hva_ hvn_ hvc_
                                      rw [hva_] at ge138_1
                                      rw [hvc_] at ul138_1
                                      have HL138_1 := Aside0.mk (show Kd.V (Kd.int .u8) 5 _ w.heap.size _ _ ((rd_T40 t125 x16_5).f1) from Kd.V_mk ul138_1 ge138_1)
                                      clear hva_ hvn_ hvc_ ge138_1 ul138_1
                                      clear hcc138 hce138
                                      have HR138_1 := Aside0.mk hi138_1
                                      have HC138_1 := Aside0.mk hl138_1
                                      clear hi138_1 hl138_1
                                      replace p138 := eq_true p138
                                      replace q138 := eq_true q138
                                      have p139 : 0 ≤ ((ji38) : Int) := of_decide_eq_true (by first | (with_reducible assumption) | assumption)
                                      have q139 : (ji38) < (t125.length : Int) := of_decide_eq_true (by first | (with_reducible assumption) | assumption)
                                      obtain ⟨ad139, A139_1, c139_1, e139, hx139_0, hx139_1, hl139_1, hi139_1⟩ := at_T40 (Kd.N_reads' HO_7.out).2.2 (ji38) p139 q139
                                      obtain rfl : ad138 = ad139 := (by injection e139)
                                      obtain ⟨ce139, hce139, hMe139, hcc139⟩ := Kd.N_get HO_7.out z40 (ji38) p139 (by first | exact q139 | exact of_decide_eq_true (by first | (with_reducible assumption) | assumption) | (have e_ := (Kd.N_reads' HO_7.out).1; omega))
                                      obtain ⟨ua139_1, uc139_1, rfl, ul139_1, ge139_1⟩ := k40_openF hMe139
                                      have hv139_1 := hcc139 1 _ rfl
                                      rw [add_field _ _ 1 (by omega)] at hv139_1
                                      replace hv139_1 := Option.some.inj (hv139_1.symm.trans hx139_1)
                                      injection hv139_1 with hva_ hvn_ hvc_
                                      rw [hva_] at ge139_1
                                      rw [hvc_] at ul139_1
                                      have HL139_1 := Aside0.mk (show Kd.V (Kd.int .u8) 5 _ w.heap.size _ _ ((rd_T40 t125 (ji38)).f1) from Kd.V_mk ul139_1 ge139_1)
                                      clear hva_ hvn_ hvc_ ge139_1 ul139_1
                                      clear hcc139 hce139
                                      have HR139_1 := Aside0.mk hi139_1
                                      have HC139_1 := Aside0.mk hl139_1
                                      clear hi139_1 hl139_1
                                      replace p139 := eq_true p139
                                      replace q139 := eq_true q139
                                      go_wp2
                                      repeat (go_quiet (fail); try go_wp2)
                                      go_ret
                                      exact ⟨by first | rfl | (simp [errW_none, errW_some] <;> rfl) | (simp only [← hji38]; first | rfl | (simp [errW_none, errW_some] <;> rfl)) | (simp [*, errW_none, errW_some] <;> rfl), by repeat (first | (with_reducible first | exact HB.out | apply below_alloc | apply pw_below_drewN | apply below_drew1) | exact HB.out)⟩
                                    · rw [if_neg c41] at H
                                      have c41b0 : decide (((rd_T40 t125 x16_5).f0) ≤ ((rd_T40 t125 (ji38)).f0)) = false := decide_eq_false c41
                                      clear c41
                                      have H' := Aside0.mk H
                                      clear H
                                      have p138 : 0 ≤ (x16_5 : Int) := of_decide_eq_true (by first | (with_reducible assumption) | assumption)
                                      have q138 : x16_5 < (t125.length : Int) := of_decide_eq_true (by first | (with_reducible assumption) | assumption)
                                      obtain ⟨ad138, A138_1, c138_1, e138, hx138_0, hx138_1, hl138_1, hi138_1⟩ := at_T40 (Kd.N_reads' HO_7.out).2.2 x16_5 p138 q138
                                      cases e138
                                      obtain ⟨ce138, hce138, hMe138, hcc138⟩ := Kd.N_get HO_7.out z40 x16_5 p138 (by first | exact q138 | exact of_decide_eq_true (by first | (with_reducible assumption) | assumption) | (have e_ := (Kd.N_reads' HO_7.out).1; omega))
                                      obtain ⟨ua138_1, uc138_1, rfl, ul138_1, ge138_1⟩ := k40_openF hMe138
                                      have hv138_1 := hcc138 1 _ rfl
                                      rw [add_field _ _ 1 (by omega)] at hv138_1
                                      replace hv138_1 := Option.some.inj (hv138_1.symm.trans hx138_1)
                                      injection hv138_1 with hva_ hvn_ hvc_
                                      rw [hva_] at ge138_1
                                      rw [hvc_] at ul138_1
                                      have HL138_1 := Aside0.mk (show Kd.V (Kd.int .u8) 5 _ w.heap.size _ _ ((rd_T40 t125 x16_5).f1) from Kd.V_mk ul138_1 ge138_1)
                                      clear hva_ hvn_ hvc_ ge138_1 ul138_1
                                      clear hcc138 hce138
                                      have HR138_1 := Aside0.mk hi138_1
                                      have HC138_1 := Aside0.mk hl138_1
                                      clear hi138_1 hl138_1
                                      replace p138 := eq_true p138
                                      replace q138 := eq_true q138
                                      have p139 : 0 ≤ ((ji38) : Int) := of_decide_eq_true (by first | (with_reducible assumption) | assumption)
                                      have q139 : (ji38) < (t125.length : Int) := of_decide_eq_true (by first | (with_reducible assumption) | assumption)
                                      obtain ⟨ad139, A139_1, c139_1, e139, hx139_0, hx139_1, hl139_1, hi139_1⟩ := at_T40 (Kd.N_reads' HO_7.out).2.2 (ji38) p139 q139
                                      obtain rfl : ad138 = ad139 := (by injection e139)
                                      obtain ⟨ce139, hce139, hMe139, hcc139⟩ := Kd.N_get HO_7.out z40 (ji38) p139 (by first | exact q139 | exact of_decide_eq_true (by first | (with_reducible assumption) | assumption) | (have e_ := (Kd.N_reads' HO_7.out).1; omega))
                                      obtain ⟨ua139_1, uc139_1, rfl, ul139_1, ge139_1⟩ := k40_openF hMe139
                                      have hv139_1 := hcc139 1 _ rfl
                                      rw [add_field _ _ 1 (by omega)] at hv139_1
                                      replace hv139_1 := Option.some.inj (hv139_1.symm.trans hx139_1)
                                      injection hv139_1 with hva_ hvn_ hvc_
                                      rw [hva_] at ge139_1
                                      rw [hvc_] at ul139_1
                                      have HL139_1 := Aside0.mk (show Kd.V (Kd.int .u8) 5 _ w.heap.size _ _ ((rd_T40 t125 (ji38)).f1) from Kd.V_mk ul139_1 ge139_1)
                                      clear hva_ hvn_ hvc_ ge139_1 ul139_1
                                      clear hcc139 hce139
                                      have HR139_1 := Aside0.mk hi139_1
                                      have HC139_1 := Aside0.mk hl139_1
                                      clear hi139_1 hl139_1
                                      replace p139 := eq_true p139
                                      replace q139 := eq_true q139
                                      go_wp2
                                      repeat (go_quiet (fail); try go_wp2)
                                      go_roundg k5
                                      case measure => have := HJ7.out; have := HJ25.out; have := HJ31.out; have := HJ33.out; have := HK5.out; omega
                                      case rel => exact ⟨(wrap64 (x16_5 + 1)), (by first | rfl | (simp; done) | (simp [*]; done)), H', ⟨by have := HJ7.out; have := HJ25.out; have := HJ31.out; have := HJ33.out; have := HK5.out; omega⟩, ⟨by (with_reducible repeat (first | apply Kd.N_alloc | apply Kd.N_drewN | apply Kd.N_drew)); exact HO_7.out⟩, ⟨by repeat (first | (with_reducible first | exact HB.out | apply below_alloc | apply pw_below_drewN | apply below_drew1) | exact HB.out)⟩⟩
                                  · rw [if_neg c40] at H
                                    exact absurd H (by simp)
                                · rw [if_neg c39] at H
                                  exact absurd H (by simp)
                              · rw [if_neg c37] at H
                                exact absurd H (by simp)
                            · rw [if_neg c36] at H
                              have c36b0 : decide (x16_5 < (t125.length : Int)) = false := decide_eq_false c36
                              clear c36
                              by_cases c42 : t128 = 0
                              · rw [if_pos c42] at H
                                have c42b0 : (t128 == 0) = true := beq_iff_eq.mpr c42
                                have c42b1 : (t128 != 0) = false := bne_eq_false_iff_eq.mpr c42
                                clear c42
                                by_cases c43 : (t125.length : Int) = x15_33
                                · rw [if_pos c43] at H
                                  have c43b0 : ((t125.length : Int) == x15_33) = true := beq_iff_eq.mpr c43
                                  have c43b1 : ((t125.length : Int) != x15_33) = false := bne_eq_false_iff_eq.mpr c43
                                  clear c43
                                  by_cases c44 : a0 ≥ 0
                                  · rw [if_pos c44] at H
                                    have c44b0 : decide (0 ≤ a0) = true := decide_eq_true c44
                                    clear c44
                                    by_cases c45 : t133 = true
                                    · subst c45
                                      have H1 : (if a1 ≥ 0 then (if t135 = true then (if (t137 == (a2.toList != ([] : List UInt8))) = true then (if t132 = a0 then (if t134 = a1 then (if t136.toList = a2.toList then ((polyglotlaw07_awake.f).bind fun t140 => (some t140)) else (some false)) else (some false)) else (some false)) else (some false)) else (some false)) else (if t135 = true then (some false) else (if (t137 == (a2.toList != ([] : List UInt8))) = true then (if t132 = a0 then (if t136.toList = a2.toList then ((polyglotlaw07_awake.f).bind fun t141 => (some t141)) else (some false)) else (some false)) else (some false)))) = some r := by rw [if_pos rfl] at H; exact H
                                      clear H
                                      have H := H1
                                      clear H1
                                      by_cases c46 : a1 ≥ 0
                                      · rw [if_pos c46] at H
                                        have c46b0 : decide (0 ≤ a1) = true := decide_eq_true c46
                                        clear c46
                                        by_cases c47 : t135 = true
                                        · subst c47
                                          have H1 : (if (t137 == (a2.toList != ([] : List UInt8))) = true then (if t132 = a0 then (if t134 = a1 then (if t136.toList = a2.toList then ((polyglotlaw07_awake.f).bind fun t140 => (some t140)) else (some false)) else (some false)) else (some false)) else (some false)) = some r := by rw [if_pos rfl] at H; exact H
                                          clear H
                                          have H := H1
                                          clear H1
                                          by_cases c48 : (t137 == (a2.toList != ([] : List UInt8))) = true
                                          · rw [if_pos c48] at H
                                            have c48b0 : (t137 == (a2.toList != ([] : List UInt8))) = true := c48
                                            (try have c48b0e : (t137 = !a2.toList.isEmpty) = True := eq_true (by have h_ := c48b0; clear c48b0; revert h_; generalize a2.toList = q_; generalize t137 = t_; cases q_ <;> cases t_ <;> simp))
                                            (try (have c48b1 : decide (t137 = (a2.toList != ([] : List UInt8))) = true := by simpa using c48))
                                            (try (have c48b2 : (t137 == (a2.toList != ([] : List UInt8))) = true := by simpa using c48))
                                            clear c48
                                            by_cases c49 : t132 = a0
                                            · rw [if_pos c49] at H
                                              have c49b0 : (t132 == a0) = true := beq_iff_eq.mpr c49
                                              have c49b1 : (t132 != a0) = false := bne_eq_false_iff_eq.mpr c49
                                              clear c49
                                              by_cases c50 : t134 = a1
                                              · rw [if_pos c50] at H
                                                have c50b0 : (t134 == a1) = true := beq_iff_eq.mpr c50
                                                have c50b1 : (t134 != a1) = false := bne_eq_false_iff_eq.mpr c50
                                                clear c50
                                                by_cases c51 : t136.toList = a2.toList
                                                · rw [if_pos c51] at H
                                                  have c51b0 : (t136.toList == a2.toList) = true := beq_iff_eq.mpr c51
                                                  have c51b1 : (t136.toList != a2.toList) = false := bne_eq_false_iff_eq.mpr c51
                                                  clear c51
                                                  replace H := Option.bind_eq_some_iff.mp H
                                                  obtain ⟨t140, A520, H⟩ := H
                                                  replace H : (some t140) = some r := H
                                                  have A52 := Aside0.mk A520
                                                  clear A520
                                                  obtain rfl := Option.some.inj H
                                                  go_wp2_with (first | (go_at_call 22; (with_reducible refine (polyglotlaw07_awake.calls  t140 _ A52.out).mono ?_); rintro e w53 ⟨rfl, hb⟩; have n0_ := Aside0.mk (Kd.N_below (by (with_reducible repeat (first | apply Kd.N_alloc | apply Kd.N_drewN | apply Kd.N_drew)); exact HO_7.out) hb); have n1_ := Aside0.mk (below_step (by repeat (first | (with_reducible first | exact HB.out | apply below_alloc | apply pw_below_drewN | apply below_drew1) | exact HB.out)) hb); clear HO_7; clear HB; have HO_7 := n0_; have HB := n1_; clear n0_ n1_; (try clear hb); (try clear hb2); (try clear hk); (try clear hi)))
                                                  repeat (go_quiet (first | (go_at_call 22; (with_reducible refine (polyglotlaw07_awake.calls  t140 _ A52.out).mono ?_); rintro e w53 ⟨rfl, hb⟩; have n0_ := Aside0.mk (Kd.N_below (by (with_reducible repeat (first | apply Kd.N_alloc | apply Kd.N_drewN | apply Kd.N_drew)); exact HO_7.out) hb); have n1_ := Aside0.mk (below_step (by repeat (first | (with_reducible first | exact HB.out | apply below_alloc | apply pw_below_drewN | apply below_drew1) | exact HB.out)) hb); clear HO_7; clear HB; have HO_7 := n0_; have HB := n1_; clear n0_ n1_; (try clear hb); (try clear hb2); (try clear hk); (try clear hi))); try go_wp2_with (first | (go_at_call 22; (with_reducible refine (polyglotlaw07_awake.calls  t140 _ A52.out).mono ?_); rintro e w53 ⟨rfl, hb⟩; have n0_ := Aside0.mk (Kd.N_below (by (with_reducible repeat (first | apply Kd.N_alloc | apply Kd.N_drewN | apply Kd.N_drew)); exact HO_7.out) hb); have n1_ := Aside0.mk (below_step (by repeat (first | (with_reducible first | exact HB.out | apply below_alloc | apply pw_below_drewN | apply below_drew1) | exact HB.out)) hb); clear HO_7; clear HB; have HO_7 := n0_; have HB := n1_; clear n0_ n1_; (try clear hb); (try clear hb2); (try clear hk); (try clear hi))))
                                                  go_ret
                                                  exact ⟨by first | rfl | (simp [errW_none, errW_some] <;> rfl) | (simp [*, errW_none, errW_some] <;> rfl), by repeat (first | (with_reducible first | exact HB.out | apply below_alloc | apply pw_below_drewN | apply below_drew1) | exact HB.out)⟩
                                                · rw [if_neg c51] at H
                                                  have c51b0 : (t136.toList == a2.toList) = false := beq_eq_false_iff_ne.mpr c51
                                                  have c51b1 : (t136.toList != a2.toList) = true := bne_iff_ne.mpr c51
                                                  obtain rfl := Option.some.inj H
                                                  go_wp2
                                                  repeat (go_quiet (fail); try go_wp2)
                                                  go_ret
                                                  exact ⟨by first | rfl | (simp [errW_none, errW_some] <;> rfl) | (simp [*, errW_none, errW_some] <;> rfl), by repeat (first | (with_reducible first | exact HB.out | apply below_alloc | apply pw_below_drewN | apply below_drew1) | exact HB.out)⟩
                                              · rw [if_neg c50] at H
                                                have c50b0 : (t134 == a1) = false := beq_eq_false_iff_ne.mpr c50
                                                have c50b1 : (t134 != a1) = true := bne_iff_ne.mpr c50
                                                obtain rfl := Option.some.inj H
                                                go_wp2
                                                repeat (go_quiet (fail); try go_wp2)
                                                go_ret
                                                exact ⟨by first | rfl | (simp [errW_none, errW_some] <;> rfl) | (simp [*, errW_none, errW_some] <;> rfl), by repeat (first | (with_reducible first | exact HB.out | apply below_alloc | apply pw_below_drewN | apply below_drew1) | exact HB.out)⟩
                                            · rw [if_neg c49] at H
                                              have c49b0 : (t132 == a0) = false := beq_eq_false_iff_ne.mpr c49
                                              have c49b1 : (t132 != a0) = true := bne_iff_ne.mpr c49
                                              obtain rfl := Option.some.inj H
                                              go_wp2
                                              repeat (go_quiet (fail); try go_wp2)
                                              go_ret
                                              exact ⟨by first | rfl | (simp [errW_none, errW_some] <;> rfl) | (simp [*, errW_none, errW_some] <;> rfl), by repeat (first | (with_reducible first | exact HB.out | apply below_alloc | apply pw_below_drewN | apply below_drew1) | exact HB.out)⟩
                                          · rw [if_neg c48] at H
                                            have c48b0 : (t137 == (a2.toList != ([] : List UInt8))) = false := by simpa using c48
                                            (try have c48b0e : (t137 = !a2.toList.isEmpty) = False := eq_false (by have h_ := c48b0; clear c48b0; revert h_; generalize a2.toList = q_; generalize t137 = t_; cases q_ <;> cases t_ <;> simp))
                                            (try (have c48b1 : decide (t137 = (a2.toList != ([] : List UInt8))) = false := by simpa using c48))
                                            (try (have c48b2 : (t137 == (a2.toList != ([] : List UInt8))) = false := by simpa using c48))
                                            (try (have c48b3 : ¬ (t137 = (a2.toList != ([] : List UInt8))) := by simpa using c48))
                                            clear c48
                                            obtain rfl := Option.some.inj H
                                            go_wp2
                                            repeat (go_quiet (fail); try go_wp2)
                                            go_ret
                                            exact ⟨by first | rfl | (simp [errW_none, errW_some] <;> rfl) | (simp [*, errW_none, errW_some] <;> rfl), by repeat (first | (with_reducible first | exact HB.out | apply below_alloc | apply pw_below_drewN | apply below_drew1) | exact HB.out)⟩
                                        · replace c47 := Bool.eq_false_iff.mpr c47
                                          subst c47
                                          have H1 : (some false) = some r := by rw [if_neg (show ¬ (false = true) by decide)] at H; exact H
                                          clear H
                                          have H := H1
                                          clear H1
                                          obtain rfl := Option.some.inj H
                                          go_wp2
                                          repeat (go_quiet (fail); try go_wp2)
                                          go_ret
                                          exact ⟨by first | rfl | (simp [errW_none, errW_some] <;> rfl) | (simp [*, errW_none, errW_some] <;> rfl), by repeat (first | (with_reducible first | exact HB.out | apply below_alloc | apply pw_below_drewN | apply below_drew1) | exact HB.out)⟩
                                      · rw [if_neg c46] at H
                                        have c46b0 : decide (0 ≤ a1) = false := decide_eq_false c46
                                        clear c46
                                        by_cases c54 : t135 = true
                                        · subst c54
                                          have H1 : (some false) = some r := by rw [if_pos rfl] at H; exact H
                                          clear H
                                          have H := H1
                                          clear H1
                                          obtain rfl := Option.some.inj H
                                          go_wp2
                                          repeat (go_quiet (fail); try go_wp2)
                                          go_ret
                                          exact ⟨by first | rfl | (simp [errW_none, errW_some] <;> rfl) | (simp [*, errW_none, errW_some] <;> rfl), by repeat (first | (with_reducible first | exact HB.out | apply below_alloc | apply pw_below_drewN | apply below_drew1) | exact HB.out)⟩
                                        · replace c54 := Bool.eq_false_iff.mpr c54
                                          subst c54
                                          have H1 : (if (t137 == (a2.toList != ([] : List UInt8))) = true then (if t132 = a0 then (if t136.toList = a2.toList then ((polyglotlaw07_awake.f).bind fun t141 => (some t141)) else (some false)) else (some false)) else (some false)) = some r := by rw [if_neg (show ¬ (false = true) by decide)] at H; exact H
                                          clear H
                                          have H := H1
                                          clear H1
                                          by_cases c55 : (t137 == (a2.toList != ([] : List UInt8))) = true
                                          · rw [if_pos c55] at H
                                            have c55b0 : (t137 == (a2.toList != ([] : List UInt8))) = true := c55
                                            (try have c55b0e : (t137 = !a2.toList.isEmpty) = True := eq_true (by have h_ := c55b0; clear c55b0; revert h_; generalize a2.toList = q_; generalize t137 = t_; cases q_ <;> cases t_ <;> simp))
                                            (try (have c55b1 : decide (t137 = (a2.toList != ([] : List UInt8))) = true := by simpa using c55))
                                            (try (have c55b2 : (t137 == (a2.toList != ([] : List UInt8))) = true := by simpa using c55))
                                            clear c55
                                            by_cases c56 : t132 = a0
                                            · rw [if_pos c56] at H
                                              have c56b0 : (t132 == a0) = true := beq_iff_eq.mpr c56
                                              have c56b1 : (t132 != a0) = false := bne_eq_false_iff_eq.mpr c56
                                              clear c56
                                              by_cases c57 : t136.toList = a2.toList
                                              · rw [if_pos c57] at H
                                                have c57b0 : (t136.toList == a2.toList) = true := beq_iff_eq.mpr c57
                                                have c57b1 : (t136.toList != a2.toList) = false := bne_eq_false_iff_eq.mpr c57
                                                clear c57
                                                replace H := Option.bind_eq_some_iff.mp H
                                                obtain ⟨t141, A580, H⟩ := H
                                                replace H : (some t141) = some r := H
                                                have A58 := Aside0.mk A580
                                                clear A580
                                                obtain rfl := Option.some.inj H
                                                go_wp2_with (first | (go_at_call 22; (with_reducible refine (polyglotlaw07_awake.calls  t141 _ A58.out).mono ?_); rintro e w59 ⟨rfl, hb⟩; have n0_ := Aside0.mk (Kd.N_below (by (with_reducible repeat (first | apply Kd.N_alloc | apply Kd.N_drewN | apply Kd.N_drew)); exact HO_7.out) hb); have n1_ := Aside0.mk (below_step (by repeat (first | (with_reducible first | exact HB.out | apply below_alloc | apply pw_below_drewN | apply below_drew1) | exact HB.out)) hb); clear HO_7; clear HB; have HO_7 := n0_; have HB := n1_; clear n0_ n1_; (try clear hb); (try clear hb2); (try clear hk); (try clear hi)))
                                                repeat (go_quiet (first | (go_at_call 22; (with_reducible refine (polyglotlaw07_awake.calls  t141 _ A58.out).mono ?_); rintro e w59 ⟨rfl, hb⟩; have n0_ := Aside0.mk (Kd.N_below (by (with_reducible repeat (first | apply Kd.N_alloc | apply Kd.N_drewN | apply Kd.N_drew)); exact HO_7.out) hb); have n1_ := Aside0.mk (below_step (by repeat (first | (with_reducible first | exact HB.out | apply below_alloc | apply pw_below_drewN | apply below_drew1) | exact HB.out)) hb); clear HO_7; clear HB; have HO_7 := n0_; have HB := n1_; clear n0_ n1_; (try clear hb); (try clear hb2); (try clear hk); (try clear hi))); try go_wp2_with (first | (go_at_call 22; (with_reducible refine (polyglotlaw07_awake.calls  t141 _ A58.out).mono ?_); rintro e w59 ⟨rfl, hb⟩; have n0_ := Aside0.mk (Kd.N_below (by (with_reducible repeat (first | apply Kd.N_alloc | apply Kd.N_drewN | apply Kd.N_drew)); exact HO_7.out) hb); have n1_ := Aside0.mk (below_step (by repeat (first | (with_reducible first | exact HB.out | apply below_alloc | apply pw_below_drewN | apply below_drew1) | exact HB.out)) hb); clear HO_7; clear HB; have HO_7 := n0_; have HB := n1_; clear n0_ n1_; (try clear hb); (try clear hb2); (try clear hk); (try clear hi))))
                                                go_ret
                                                exact ⟨by first | rfl | (simp [errW_none, errW_some] <;> rfl) | (simp [*, errW_none, errW_some] <;> rfl), by repeat (first | (with_reducible first | exact HB.out | apply below_alloc | apply pw_below_drewN | apply below_drew1) | exact HB.out)⟩
                                              · rw [if_neg c57] at H
                                                have c57b0 : (t136.toList == a2.toList) = false := beq_eq_false_iff_ne.mpr c57
                                                have c57b1 : (t136.toList != a2.toList) = true := bne_iff_ne.mpr c57
                                                obtain rfl := Option.some.inj H
                                                go_wp2
                                                repeat (go_quiet (fail); try go_wp2)
                                                go_ret
                                                exact ⟨by first | rfl | (simp [errW_none, errW_some] <;> rfl) | (simp [*, errW_none, errW_some] <;> rfl), by repeat (first | (with_reducible first | exact HB.out | apply below_alloc | apply pw_below_drewN | apply below_drew1) | exact HB.out)⟩
                                            · rw [if_neg c56] at H
                                              have c56b0 : (t132 == a0) = false := beq_eq_false_iff_ne.mpr c56
                                              have c56b1 : (t132 != a0) = true := bne_iff_ne.mpr c56
                                              obtain rfl := Option.some.inj H
                                              go_wp2
                                              repeat (go_quiet (fail); try go_wp2)
                                              go_ret
                                              exact ⟨by first | rfl | (simp [errW_none, errW_some] <;> rfl) | (simp [*, errW_none, errW_some] <;> rfl), by repeat (first | (with_reducible first | exact HB.out | apply below_alloc | apply pw_below_drewN | apply below_drew1) | exact HB.out)⟩
                                          · rw [if_neg c55] at H
                                            have c55b0 : (t137 == (a2.toList != ([] : List UInt8))) = false := by simpa using c55
                                            (try have c55b0e : (t137 = !a2.toList.isEmpty) = False := eq_false (by have h_ := c55b0; clear c55b0; revert h_; generalize a2.toList = q_; generalize t137 = t_; cases q_ <;> cases t_ <;> simp))
                                            (try (have c55b1 : decide (t137 = (a2.toList != ([] : List UInt8))) = false := by simpa using c55))
                                            (try (have c55b2 : (t137 == (a2.toList != ([] : List UInt8))) = false := by simpa using c55))
                                            (try (have c55b3 : ¬ (t137 = (a2.toList != ([] : List UInt8))) := by simpa using c55))
                                            clear c55
                                            obtain rfl := Option.some.inj H
                                            go_wp2
                                            repeat (go_quiet (fail); try go_wp2)
                                            go_ret
                                            exact ⟨by first | rfl | (simp [errW_none, errW_some] <;> rfl) | (simp [*, errW_none, errW_some] <;> rfl), by repeat (first | (with_reducible first | exact HB.out | apply below_alloc | apply pw_below_drewN | apply below_drew1) | exact HB.out)⟩
                                    · replace c45 := Bool.eq_false_iff.mpr c45
                                      subst c45
                                      have H1 : (some false) = some r := by rw [if_neg (show ¬ (false = true) by decide)] at H; exact H
                                      clear H
                                      have H := H1
                                      clear H1
                                      obtain rfl := Option.some.inj H
                                      go_wp2
                                      repeat (go_quiet (fail); try go_wp2)
                                      go_ret
                                      exact ⟨by first | rfl | (simp [errW_none, errW_some] <;> rfl) | (simp [*, errW_none, errW_some] <;> rfl), by repeat (first | (with_reducible first | exact HB.out | apply below_alloc | apply pw_below_drewN | apply below_drew1) | exact HB.out)⟩
                                  · rw [if_neg c44] at H
                                    have c44b0 : decide (0 ≤ a0) = false := decide_eq_false c44
                                    clear c44
                                    by_cases c60 : t133 = true
                                    · subst c60
                                      have H1 : (some false) = some r := by rw [if_pos rfl] at H; exact H
                                      clear H
                                      have H := H1
                                      clear H1
                                      obtain rfl := Option.some.inj H
                                      go_wp2
                                      repeat (go_quiet (fail); try go_wp2)
                                      go_ret
                                      exact ⟨by first | rfl | (simp [errW_none, errW_some] <;> rfl) | (simp [*, errW_none, errW_some] <;> rfl), by repeat (first | (with_reducible first | exact HB.out | apply below_alloc | apply pw_below_drewN | apply below_drew1) | exact HB.out)⟩
                                    · replace c60 := Bool.eq_false_iff.mpr c60
                                      subst c60
                                      have H1 : (if a1 ≥ 0 then (if t135 = true then (if (t137 == (a2.toList != ([] : List UInt8))) = true then (if t134 = a1 then (if t136.toList = a2.toList then ((polyglotlaw07_awake.f).bind fun t142 => (some t142)) else (some false)) else (some false)) else (some false)) else (some false)) else (if t135 = true then (some false) else (if (t137 == (a2.toList != ([] : List UInt8))) = true then (if t136.toList = a2.toList then ((polyglotlaw07_awake.f).bind fun t143 => (some t143)) else (some false)) else (some false)))) = some r := by rw [if_neg (show ¬ (false = true) by decide)] at H; exact H
                                      clear H
                                      have H := H1
                                      clear H1
                                      by_cases c61 : a1 ≥ 0
                                      · rw [if_pos c61] at H
                                        have c61b0 : decide (0 ≤ a1) = true := decide_eq_true c61
                                        clear c61
                                        by_cases c62 : t135 = true
                                        · subst c62
                                          have H1 : (if (t137 == (a2.toList != ([] : List UInt8))) = true then (if t134 = a1 then (if t136.toList = a2.toList then ((polyglotlaw07_awake.f).bind fun t142 => (some t142)) else (some false)) else (some false)) else (some false)) = some r := by rw [if_pos rfl] at H; exact H
                                          clear H
                                          have H := H1
                                          clear H1
                                          by_cases c63 : (t137 == (a2.toList != ([] : List UInt8))) = true
                                          · rw [if_pos c63] at H
                                            have c63b0 : (t137 == (a2.toList != ([] : List UInt8))) = true := c63
                                            (try have c63b0e : (t137 = !a2.toList.isEmpty) = True := eq_true (by have h_ := c63b0; clear c63b0; revert h_; generalize a2.toList = q_; generalize t137 = t_; cases q_ <;> cases t_ <;> simp))
                                            (try (have c63b1 : decide (t137 = (a2.toList != ([] : List UInt8))) = true := by simpa using c63))
                                            (try (have c63b2 : (t137 == (a2.toList != ([] : List UInt8))) = true := by simpa using c63))
                                            clear c63
                                            by_cases c64 : t134 = a1
                                            · rw [if_pos c64] at H
                                              have c64b0 : (t134 == a1) = true := beq_iff_eq.mpr c64
                                              have c64b1 : (t134 != a1) = false := bne_eq_false_iff_eq.mpr c64
                                              clear c64
                                              by_cases c65 : t136.toList = a2.toList
                                              · rw [if_pos c65] at H
                                                have c65b0 : (t136.toList == a2.toList) = true := beq_iff_eq.mpr c65
                                                have c65b1 : (t136.toList != a2.toList) = false := bne_eq_false_iff_eq.mpr c65
                                                clear c65
                                                replace H := Option.bind_eq_some_iff.mp H
                                                obtain ⟨t142, A660, H⟩ := H
                                                replace H : (some t142) = some r := H
                                                have A66 := Aside0.mk A660
                                                clear A660
                                                obtain rfl := Option.some.inj H
                                                go_wp2_with (first | (go_at_call 22; (with_reducible refine (polyglotlaw07_awake.calls  t142 _ A66.out).mono ?_); rintro e w67 ⟨rfl, hb⟩; have n0_ := Aside0.mk (Kd.N_below (by (with_reducible repeat (first | apply Kd.N_alloc | apply Kd.N_drewN | apply Kd.N_drew)); exact HO_7.out) hb); have n1_ := Aside0.mk (below_step (by repeat (first | (with_reducible first | exact HB.out | apply below_alloc | apply pw_below_drewN | apply below_drew1) | exact HB.out)) hb); clear HO_7; clear HB; have HO_7 := n0_; have HB := n1_; clear n0_ n1_; (try clear hb); (try clear hb2); (try clear hk); (try clear hi)))
                                                repeat (go_quiet (first | (go_at_call 22; (with_reducible refine (polyglotlaw07_awake.calls  t142 _ A66.out).mono ?_); rintro e w67 ⟨rfl, hb⟩; have n0_ := Aside0.mk (Kd.N_below (by (with_reducible repeat (first | apply Kd.N_alloc | apply Kd.N_drewN | apply Kd.N_drew)); exact HO_7.out) hb); have n1_ := Aside0.mk (below_step (by repeat (first | (with_reducible first | exact HB.out | apply below_alloc | apply pw_below_drewN | apply below_drew1) | exact HB.out)) hb); clear HO_7; clear HB; have HO_7 := n0_; have HB := n1_; clear n0_ n1_; (try clear hb); (try clear hb2); (try clear hk); (try clear hi))); try go_wp2_with (first | (go_at_call 22; (with_reducible refine (polyglotlaw07_awake.calls  t142 _ A66.out).mono ?_); rintro e w67 ⟨rfl, hb⟩; have n0_ := Aside0.mk (Kd.N_below (by (with_reducible repeat (first | apply Kd.N_alloc | apply Kd.N_drewN | apply Kd.N_drew)); exact HO_7.out) hb); have n1_ := Aside0.mk (below_step (by repeat (first | (with_reducible first | exact HB.out | apply below_alloc | apply pw_below_drewN | apply below_drew1) | exact HB.out)) hb); clear HO_7; clear HB; have HO_7 := n0_; have HB := n1_; clear n0_ n1_; (try clear hb); (try clear hb2); (try clear hk); (try clear hi))))
                                                go_ret
                                                exact ⟨by first | rfl | (simp [errW_none, errW_some] <;> rfl) | (simp [*, errW_none, errW_some] <;> rfl), by repeat (first | (with_reducible first | exact HB.out | apply below_alloc | apply pw_below_drewN | apply below_drew1) | exact HB.out)⟩
                                              · rw [if_neg c65] at H
                                                have c65b0 : (t136.toList == a2.toList) = false := beq_eq_false_iff_ne.mpr c65
                                                have c65b1 : (t136.toList != a2.toList) = true := bne_iff_ne.mpr c65
                                                obtain rfl := Option.some.inj H
                                                go_wp2
                                                repeat (go_quiet (fail); try go_wp2)
                                                go_ret
                                                exact ⟨by first | rfl | (simp [errW_none, errW_some] <;> rfl) | (simp [*, errW_none, errW_some] <;> rfl), by repeat (first | (with_reducible first | exact HB.out | apply below_alloc | apply pw_below_drewN | apply below_drew1) | exact HB.out)⟩
                                            · rw [if_neg c64] at H
                                              have c64b0 : (t134 == a1) = false := beq_eq_false_iff_ne.mpr c64
                                              have c64b1 : (t134 != a1) = true := bne_iff_ne.mpr c64
                                              obtain rfl := Option.some.inj H
                                              go_wp2
                                              repeat (go_quiet (fail); try go_wp2)
                                              go_ret
                                              exact ⟨by first | rfl | (simp [errW_none, errW_some] <;> rfl) | (simp [*, errW_none, errW_some] <;> rfl), by repeat (first | (with_reducible first | exact HB.out | apply below_alloc | apply pw_below_drewN | apply below_drew1) | exact HB.out)⟩
                                          · rw [if_neg c63] at H
                                            have c63b0 : (t137 == (a2.toList != ([] : List UInt8))) = false := by simpa using c63
                                            (try have c63b0e : (t137 = !a2.toList.isEmpty) = False := eq_false (by have h_ := c63b0; clear c63b0; revert h_; generalize a2.toList = q_; generalize t137 = t_; cases q_ <;> cases t_ <;> simp))
                                            (try (have c63b1 : decide (t137 = (a2.toList != ([] : List UInt8))) = false := by simpa using c63))
                                            (try (have c63b2 : (t137 == (a2.toList != ([] : List UInt8))) = false := by simpa using c63))
                                            (try (have c63b3 : ¬ (t137 = (a2.toList != ([] : List UInt8))) := by simpa using c63))
                                            clear c63
                                            obtain rfl := Option.some.inj H
                                            go_wp2
                                            repeat (go_quiet (fail); try go_wp2)
                                            go_ret
                                            exact ⟨by first | rfl | (simp [errW_none, errW_some] <;> rfl) | (simp [*, errW_none, errW_some] <;> rfl), by repeat (first | (with_reducible first | exact HB.out | apply below_alloc | apply pw_below_drewN | apply below_drew1) | exact HB.out)⟩
                                        · replace c62 := Bool.eq_false_iff.mpr c62
                                          subst c62
                                          have H1 : (some false) = some r := by rw [if_neg (show ¬ (false = true) by decide)] at H; exact H
                                          clear H
                                          have H := H1
                                          clear H1
                                          obtain rfl := Option.some.inj H
                                          go_wp2
                                          repeat (go_quiet (fail); try go_wp2)
                                          go_ret
                                          exact ⟨by first | rfl | (simp [errW_none, errW_some] <;> rfl) | (simp [*, errW_none, errW_some] <;> rfl), by repeat (first | (with_reducible first | exact HB.out | apply below_alloc | apply pw_below_drewN | apply below_drew1) | exact HB.out)⟩
                                      · rw [if_neg c61] at H
                                        have c61b0 : decide (0 ≤ a1) = false := decide_eq_false c61
                                        clear c61
                                        by_cases c68 : t135 = true
                                        · subst c68
                                          have H1 : (some false) = some r := by rw [if_pos rfl] at H; exact H
                                          clear H
                                          have H := H1
                                          clear H1
                                          obtain rfl := Option.some.inj H
                                          go_wp2
                                          repeat (go_quiet (fail); try go_wp2)
                                          go_ret
                                          exact ⟨by first | rfl | (simp [errW_none, errW_some] <;> rfl) | (simp [*, errW_none, errW_some] <;> rfl), by repeat (first | (with_reducible first | exact HB.out | apply below_alloc | apply pw_below_drewN | apply below_drew1) | exact HB.out)⟩
                                        · replace c68 := Bool.eq_false_iff.mpr c68
                                          subst c68
                                          have H1 : (if (t137 == (a2.toList != ([] : List UInt8))) = true then (if t136.toList = a2.toList then ((polyglotlaw07_awake.f).bind fun t143 => (some t143)) else (some false)) else (some false)) = some r := by rw [if_neg (show ¬ (false = true) by decide)] at H; exact H
                                          clear H
                                          have H := H1
                                          clear H1
                                          by_cases c69 : (t137 == (a2.toList != ([] : List UInt8))) = true
                                          · rw [if_pos c69] at H
                                            have c69b0 : (t137 == (a2.toList != ([] : List UInt8))) = true := c69
                                            (try have c69b0e : (t137 = !a2.toList.isEmpty) = True := eq_true (by have h_ := c69b0; clear c69b0; revert h_; generalize a2.toList = q_; generalize t137 = t_; cases q_ <;> cases t_ <;> simp))
                                            (try (have c69b1 : decide (t137 = (a2.toList != ([] : List UInt8))) = true := by simpa using c69))
                                            (try (have c69b2 : (t137 == (a2.toList != ([] : List UInt8))) = true := by simpa using c69))
                                            clear c69
                                            by_cases c70 : t136.toList = a2.toList
                                            · rw [if_pos c70] at H
                                              have c70b0 : (t136.toList == a2.toList) = true := beq_iff_eq.mpr c70
                                              have c70b1 : (t136.toList != a2.toList) = false := bne_eq_false_iff_eq.mpr c70
                                              clear c70
                                              replace H := Option.bind_eq_some_iff.mp H
                                              obtain ⟨t143, A710, H⟩ := H
                                              replace H : (some t143) = some r := H
                                              have A71 := Aside0.mk A710
                                              clear A710
                                              obtain rfl := Option.some.inj H
                                              go_wp2_with (first | (go_at_call 22; (with_reducible refine (polyglotlaw07_awake.calls  t143 _ A71.out).mono ?_); rintro e w72 ⟨rfl, hb⟩; have n0_ := Aside0.mk (Kd.N_below (by (with_reducible repeat (first | apply Kd.N_alloc | apply Kd.N_drewN | apply Kd.N_drew)); exact HO_7.out) hb); have n1_ := Aside0.mk (below_step (by repeat (first | (with_reducible first | exact HB.out | apply below_alloc | apply pw_below_drewN | apply below_drew1) | exact HB.out)) hb); clear HO_7; clear HB; have HO_7 := n0_; have HB := n1_; clear n0_ n1_; (try clear hb); (try clear hb2); (try clear hk); (try clear hi)))
                                              repeat (go_quiet (first | (go_at_call 22; (with_reducible refine (polyglotlaw07_awake.calls  t143 _ A71.out).mono ?_); rintro e w72 ⟨rfl, hb⟩; have n0_ := Aside0.mk (Kd.N_below (by (with_reducible repeat (first | apply Kd.N_alloc | apply Kd.N_drewN | apply Kd.N_drew)); exact HO_7.out) hb); have n1_ := Aside0.mk (below_step (by repeat (first | (with_reducible first | exact HB.out | apply below_alloc | apply pw_below_drewN | apply below_drew1) | exact HB.out)) hb); clear HO_7; clear HB; have HO_7 := n0_; have HB := n1_; clear n0_ n1_; (try clear hb); (try clear hb2); (try clear hk); (try clear hi))); try go_wp2_with (first | (go_at_call 22; (with_reducible refine (polyglotlaw07_awake.calls  t143 _ A71.out).mono ?_); rintro e w72 ⟨rfl, hb⟩; have n0_ := Aside0.mk (Kd.N_below (by (with_reducible repeat (first | apply Kd.N_alloc | apply Kd.N_drewN | apply Kd.N_drew)); exact HO_7.out) hb); have n1_ := Aside0.mk (below_step (by repeat (first | (with_reducible first | exact HB.out | apply below_alloc | apply pw_below_drewN | apply below_drew1) | exact HB.out)) hb); clear HO_7; clear HB; have HO_7 := n0_; have HB := n1_; clear n0_ n1_; (try clear hb); (try clear hb2); (try clear hk); (try clear hi))))
                                              go_ret
                                              exact ⟨by first | rfl | (simp [errW_none, errW_some] <;> rfl) | (simp [*, errW_none, errW_some] <;> rfl), by repeat (first | (with_reducible first | exact HB.out | apply below_alloc | apply pw_below_drewN | apply below_drew1) | exact HB.out)⟩
                                            · rw [if_neg c70] at H
                                              have c70b0 : (t136.toList == a2.toList) = false := beq_eq_false_iff_ne.mpr c70
                                              have c70b1 : (t136.toList != a2.toList) = true := bne_iff_ne.mpr c70
                                              obtain rfl := Option.some.inj H
                                              go_wp2
                                              repeat (go_quiet (fail); try go_wp2)
                                              go_ret
                                              exact ⟨by first | rfl | (simp [errW_none, errW_some] <;> rfl) | (simp [*, errW_none, errW_some] <;> rfl), by repeat (first | (with_reducible first | exact HB.out | apply below_alloc | apply pw_below_drewN | apply below_drew1) | exact HB.out)⟩
                                          · rw [if_neg c69] at H
                                            have c69b0 : (t137 == (a2.toList != ([] : List UInt8))) = false := by simpa using c69
                                            (try have c69b0e : (t137 = !a2.toList.isEmpty) = False := eq_false (by have h_ := c69b0; clear c69b0; revert h_; generalize a2.toList = q_; generalize t137 = t_; cases q_ <;> cases t_ <;> simp))
                                            (try (have c69b1 : decide (t137 = (a2.toList != ([] : List UInt8))) = false := by simpa using c69))
                                            (try (have c69b2 : (t137 == (a2.toList != ([] : List UInt8))) = false := by simpa using c69))
                                            (try (have c69b3 : ¬ (t137 = (a2.toList != ([] : List UInt8))) := by simpa using c69))
                                            clear c69
                                            obtain rfl := Option.some.inj H
                                            go_wp2
                                            repeat (go_quiet (fail); try go_wp2)
                                            go_ret
                                            exact ⟨by first | rfl | (simp [errW_none, errW_some] <;> rfl) | (simp [*, errW_none, errW_some] <;> rfl), by repeat (first | (with_reducible first | exact HB.out | apply below_alloc | apply pw_below_drewN | apply below_drew1) | exact HB.out)⟩
                                · rw [if_neg c43] at H
                                  have c43b0 : ((t125.length : Int) == x15_33) = false := beq_eq_false_iff_ne.mpr c43
                                  have c43b1 : ((t125.length : Int) != x15_33) = true := bne_iff_ne.mpr c43
                                  obtain rfl := Option.some.inj H
                                  go_wp2
                                  repeat (go_quiet (fail); try go_wp2)
                                  go_ret
                                  exact ⟨by first | rfl | (simp [errW_none, errW_some] <;> rfl) | (simp [*, errW_none, errW_some] <;> rfl), by repeat (first | (with_reducible first | exact HB.out | apply below_alloc | apply pw_below_drewN | apply below_drew1) | exact HB.out)⟩
                              · rw [if_neg c42] at H
                                have c42b0 : (t128 == 0) = false := beq_eq_false_iff_ne.mpr c42
                                have c42b1 : (t128 != 0) = true := bne_iff_ne.mpr c42
                                obtain rfl := Option.some.inj H
                                go_wp2
                                repeat (go_quiet (fail); try go_wp2)
                                go_ret
                                exact ⟨by first | rfl | (simp [errW_none, errW_some] <;> rfl) | (simp [*, errW_none, errW_some] <;> rfl), by repeat (first | (with_reducible first | exact HB.out | apply below_alloc | apply pw_below_drewN | apply below_drew1) | exact HB.out)⟩
          · replace c22 := Bool.eq_false_iff.mpr c22
            subst c22
            have H1 : (if (t125.length : Int) = 0 then (if t128 = 4 then ((polyglotlaw07_awake.f).bind fun t131 => (some t131)) else (some false)) else (some false)) = some r := by rw [if_neg (show ¬ (false = true) by decide)] at H; exact H
            clear H
            have H := H1
            clear H1
            by_cases c73 : (t125.length : Int) = 0
            · rw [if_pos c73] at H
              have c73b0 : ((t125.length : Int) == 0) = true := beq_iff_eq.mpr c73
              have c73b1 : ((t125.length : Int) != 0) = false := bne_eq_false_iff_eq.mpr c73
              clear c73
              by_cases c74 : t128 = 4
              · rw [if_pos c74] at H
                have c74b0 : (t128 == 4) = true := beq_iff_eq.mpr c74
                have c74b1 : (t128 != 4) = false := bne_eq_false_iff_eq.mpr c74
                clear c74
                replace H := Option.bind_eq_some_iff.mp H
                obtain ⟨t131, A750, H⟩ := H
                replace H : (some t131) = some r := H
                have A75 := Aside0.mk A750
                clear A750
                obtain rfl := Option.some.inj H
                go_wp2_with (first | (go_at_call 37; (with_reducible refine (polyglotlaw07_plain.calls kj7 a2 false _ A21.out).mono ?_); rintro e w' ⟨rfl, ⟨nd, rfl⟩⟩; (try first | exact ⟨rfl, _, World.drewN_drewN _ _ _⟩ | exact ⟨rfl, _, Eq.trans (World.drewN_drewN _ _ _) (congrArg (World.drewN _) (Nat.add_assoc _ _ _))⟩); obtain ⟨Ao76, co76, eo76⟩ := Kd.N_slice HO_7.out; subst eo76) | (go_at_call 22; (with_reducible refine (polyglotlaw07_awake.calls  t131 _ A75.out).mono ?_); rintro e w77 ⟨rfl, hb⟩; have n0_ := Aside0.mk (Kd.N_below (by (with_reducible repeat (first | apply Kd.N_alloc | apply Kd.N_drewN | apply Kd.N_drew)); exact HO_7.out) hb); have n1_ := Aside0.mk (below_step (by repeat (first | (with_reducible first | exact HB.out | apply below_alloc | apply pw_below_drewN | apply below_drew1) | exact HB.out)) hb); clear HO_7; clear HB; have HO_7 := n0_; have HB := n1_; clear n0_ n1_; (try clear hb); (try clear hb2); (try clear hk); (try clear hi)))
                repeat (go_quiet (first | (go_at_call 37; (with_reducible refine (polyglotlaw07_plain.calls kj7 a2 false _ A21.out).mono ?_); rintro e w' ⟨rfl, ⟨nd, rfl⟩⟩; (try first | exact ⟨rfl, _, World.drewN_drewN _ _ _⟩ | exact ⟨rfl, _, Eq.trans (World.drewN_drewN _ _ _) (congrArg (World.drewN _) (Nat.add_assoc _ _ _))⟩); obtain ⟨Ao76, co76, eo76⟩ := Kd.N_slice HO_7.out; subst eo76) | (go_at_call 22; (with_reducible refine (polyglotlaw07_awake.calls  t131 _ A75.out).mono ?_); rintro e w77 ⟨rfl, hb⟩; have n0_ := Aside0.mk (Kd.N_below (by (with_reducible repeat (first | apply Kd.N_alloc | apply Kd.N_drewN | apply Kd.N_drew)); exact HO_7.out) hb); have n1_ := Aside0.mk (below_step (by repeat (first | (with_reducible first | exact HB.out | apply below_alloc | apply pw_below_drewN | apply below_drew1) | exact HB.out)) hb); clear HO_7; clear HB; have HO_7 := n0_; have HB := n1_; clear n0_ n1_; (try clear hb); (try clear hb2); (try clear hk); (try clear hi))); try go_wp2_with (first | (go_at_call 37; (with_reducible refine (polyglotlaw07_plain.calls kj7 a2 false _ A21.out).mono ?_); rintro e w' ⟨rfl, ⟨nd, rfl⟩⟩; (try first | exact ⟨rfl, _, World.drewN_drewN _ _ _⟩ | exact ⟨rfl, _, Eq.trans (World.drewN_drewN _ _ _) (congrArg (World.drewN _) (Nat.add_assoc _ _ _))⟩); obtain ⟨Ao76, co76, eo76⟩ := Kd.N_slice HO_7.out; subst eo76) | (go_at_call 22; (with_reducible refine (polyglotlaw07_awake.calls  t131 _ A75.out).mono ?_); rintro e w77 ⟨rfl, hb⟩; have n0_ := Aside0.mk (Kd.N_below (by (with_reducible repeat (first | apply Kd.N_alloc | apply Kd.N_drewN | apply Kd.N_drew)); exact HO_7.out) hb); have n1_ := Aside0.mk (below_step (by repeat (first | (with_reducible first | exact HB.out | apply below_alloc | apply pw_below_drewN | apply below_drew1) | exact HB.out)) hb); clear HO_7; clear HB; have HO_7 := n0_; have HB := n1_; clear n0_ n1_; (try clear hb); (try clear hb2); (try clear hk); (try clear hi))))
                go_ret
                exact ⟨by first | rfl | (simp [errW_none, errW_some] <;> rfl) | (simp [*, errW_none, errW_some] <;> rfl), by repeat (first | (with_reducible first | exact HB.out | apply below_alloc | apply pw_below_drewN | apply below_drew1) | exact HB.out)⟩
              · rw [if_neg c74] at H
                have c74b0 : (t128 == 4) = false := beq_eq_false_iff_ne.mpr c74
                have c74b1 : (t128 != 4) = true := bne_iff_ne.mpr c74
                obtain rfl := Option.some.inj H
                go_wp2_with (first | (go_at_call 37; (with_reducible refine (polyglotlaw07_plain.calls kj7 a2 false _ A21.out).mono ?_); rintro e w' ⟨rfl, ⟨nd, rfl⟩⟩; (try first | exact ⟨rfl, _, World.drewN_drewN _ _ _⟩ | exact ⟨rfl, _, Eq.trans (World.drewN_drewN _ _ _) (congrArg (World.drewN _) (Nat.add_assoc _ _ _))⟩); obtain ⟨Ao78, co78, eo78⟩ := Kd.N_slice HO_7.out; subst eo78))
                repeat (go_quiet (first | (go_at_call 37; (with_reducible refine (polyglotlaw07_plain.calls kj7 a2 false _ A21.out).mono ?_); rintro e w' ⟨rfl, ⟨nd, rfl⟩⟩; (try first | exact ⟨rfl, _, World.drewN_drewN _ _ _⟩ | exact ⟨rfl, _, Eq.trans (World.drewN_drewN _ _ _) (congrArg (World.drewN _) (Nat.add_assoc _ _ _))⟩); obtain ⟨Ao78, co78, eo78⟩ := Kd.N_slice HO_7.out; subst eo78)); try go_wp2_with (first | (go_at_call 37; (with_reducible refine (polyglotlaw07_plain.calls kj7 a2 false _ A21.out).mono ?_); rintro e w' ⟨rfl, ⟨nd, rfl⟩⟩; (try first | exact ⟨rfl, _, World.drewN_drewN _ _ _⟩ | exact ⟨rfl, _, Eq.trans (World.drewN_drewN _ _ _) (congrArg (World.drewN _) (Nat.add_assoc _ _ _))⟩); obtain ⟨Ao78, co78, eo78⟩ := Kd.N_slice HO_7.out; subst eo78)))
                go_ret
                exact ⟨by first | rfl | (simp [errW_none, errW_some] <;> rfl) | (simp [*, errW_none, errW_some] <;> rfl), by repeat (first | (with_reducible first | exact HB.out | apply below_alloc | apply pw_below_drewN | apply below_drew1) | exact HB.out)⟩
            · rw [if_neg c73] at H
              have c73b0 : ((t125.length : Int) == 0) = false := beq_eq_false_iff_ne.mpr c73
              have c73b1 : ((t125.length : Int) != 0) = true := bne_iff_ne.mpr c73
              have c73b2 : ¬ (t125 = []) := fun h_ => c73 (by rw [h_]; rfl)
              obtain rfl := Option.some.inj H
              go_wp2_with (first | (go_at_call 37; (with_reducible refine (polyglotlaw07_plain.calls kj7 a2 false _ A21.out).mono ?_); rintro e w' ⟨rfl, ⟨nd, rfl⟩⟩; (try first | exact ⟨rfl, _, World.drewN_drewN _ _ _⟩ | exact ⟨rfl, _, Eq.trans (World.drewN_drewN _ _ _) (congrArg (World.drewN _) (Nat.add_assoc _ _ _))⟩); obtain ⟨Ao79, co79, eo79⟩ := Kd.N_slice HO_7.out; subst eo79))
              repeat (go_quiet (first | (go_at_call 37; (with_reducible refine (polyglotlaw07_plain.calls kj7 a2 false _ A21.out).mono ?_); rintro e w' ⟨rfl, ⟨nd, rfl⟩⟩; (try first | exact ⟨rfl, _, World.drewN_drewN _ _ _⟩ | exact ⟨rfl, _, Eq.trans (World.drewN_drewN _ _ _) (congrArg (World.drewN _) (Nat.add_assoc _ _ _))⟩); obtain ⟨Ao79, co79, eo79⟩ := Kd.N_slice HO_7.out; subst eo79)); try go_wp2_with (first | (go_at_call 37; (with_reducible refine (polyglotlaw07_plain.calls kj7 a2 false _ A21.out).mono ?_); rintro e w' ⟨rfl, ⟨nd, rfl⟩⟩; (try first | exact ⟨rfl, _, World.drewN_drewN _ _ _⟩ | exact ⟨rfl, _, Eq.trans (World.drewN_drewN _ _ _) (congrArg (World.drewN _) (Nat.add_assoc _ _ _))⟩); obtain ⟨Ao79, co79, eo79⟩ := Kd.N_slice HO_7.out; subst eo79)))
              go_ret
              exact ⟨by first | rfl | (simp [errW_none, errW_some] <;> rfl) | (simp [*, errW_none, errW_some] <;> rfl), by repeat (first | (with_reducible first | exact HB.out | apply below_alloc | apply pw_below_drewN | apply below_drew1) | exact HB.out)⟩

/-- THE ONE PURE STATEMENT of polyglotlaw07_KnownMakes: yours. -/
def polyglotlaw07_KnownMakes.Pure : Prop := ∀ (a0 : Int) (a1 : Int) (a2 : ByteArray), (Lit.int .i64 a0).wf = true → (Lit.int .i64 a1).wf = true → a2.size ≤ 140737488351232 → ∃ k, polyglotlaw07_KnownMakes.f k a0 a1 a2 = some true
theorem polyglotlaw07_KnownMakes.walk (P : polyglotlaw07_KnownMakes.Pure) (a0 : Int) (a1 : Int) (a2 : ByteArray) (w : World) (w0 : (Lit.int .i64 a0).wf = true) (w1 : (Lit.int .i64 a1).wf = true) (w2 : a2.size ≤ 140737488351232) :
    Calls Try.prog 7 #[.int .i64 a0, .int .i64 a1, .string a2] w fun e w' => e = .returned (.bool true) ∧ Below w.heap.size w w' := by
  obtain ⟨k, h⟩ := P a0 a1 a2 w0 w1 w2
  refine (polyglotlaw07_KnownMakes.calls k a0 a1 a2 true w h).mono ?_
  rintro e w' ⟨rfl, hd⟩
  exact ⟨rfl, hd⟩

end Go.Proofs.Ytdamjkfggmmmeab.PKm
