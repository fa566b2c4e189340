-- WRITTEN BY A PROGRAM OF THIS SESSION (a print of its own, with given functions). Not trusted: Lean checks it.
import Derived.Test.YtdamjkfggmmmeabPKsx0
import Derived.Test.YtdamjkfggmmmeabPKsx1
import Derived.Test.YtdamjkfggmmmeabPKsx2
namespace Go.Proofs.Ytdamjkfggmmmeab.PKs
open Go.RowKit Go.Proofs.YtdamjkfggmmmeabW.PrintWords Go.Proofs.YtdamjkfggmmmeabW.PrintLast Go.Proofs.YtdamjkfggmmmeabW.PrintMore
attribute [local go_sem] max2_int min2_int max_two min_two max_three min_three max_four min_four   -- for this text's walks alone
set_option linter.unusedVariables false
set_option linter.unusedSimpArgs false

/-! ### polyglotlaw07_KnownSplits: function 4 -/
mutual
def polyglotlaw07_KnownSplits.j0 : Nat → Int → List (S40) → ByteArray → Bool → Option (Bool)
  | 0, _, _, _, _ => none
  | k + 1, x0, x1, x2, x22 => if x22 = true then ((polyglotlaw07_awake.f).bind fun t112 => (some t112)) else ((known_Known.f x0 x1).bind fun t113 => ((known_Unknown.f x0 x1).bind fun t116 => (if (wrap64 ((t113.length : Int) + (t116.length : Int))) = (x1.length : Int) then (polyglotlaw07_KnownSplits.l0 k x0 x1 x2 t113 t116 0 0 0) else (some false))))
def polyglotlaw07_KnownSplits.l0 : Nat → Int → List (S40) → ByteArray → List (S40) → List (S40) → Int → Int → Int → Option (Bool)
  | 0, _, _, _, _, _, _, _, _ => none
  | k + 1, x0, x1, x2, x7, x8, x9, x10, x11 => if x11 < (x1.length : Int) then (if 0 ≤ x11 then ((known_Knows.f x0 ((rd_T40 x1 x11).f0)).bind fun t120 => ((polyglotlaw07_in.f x0 ((rd_T40 x1 x11).f0)).bind fun t121 => (if (t120 != t121) = true then (polyglotlaw07_KnownSplits.j2 k x0 x1 x2 x7 x8 x9 x10 x11 ((rd_T40 x1 x11).f0) true) else ((known_Name.f ((rd_T40 x1 x11).f0)).bind fun t122 => (if ((rd_T40 x1 x11).f0) ≥ 32 then (if ((rd_T40 x1 x11).f0) ≤ 34 then (polyglotlaw07_KnownSplits.j2 k x0 x1 x2 x7 x8 x9 x10 x11 ((rd_T40 x1 x11).f0) (!(t122.toList != ([] : List UInt8)))) else (polyglotlaw07_KnownSplits.j2 k x0 x1 x2 x7 x8 x9 x10 x11 ((rd_T40 x1 x11).f0) (t122.toList != ([] : List UInt8)))) else (polyglotlaw07_KnownSplits.j2 k x0 x1 x2 x7 x8 x9 x10 x11 ((rd_T40 x1 x11).f0) ((t122.toList != ([] : List UInt8)) != false))))))) else (none)) else ((known_Tag.f x2).bind fun bt130 => (if x2.toList = ([122, 111, 110, 101] : List UInt8) then (if (bt130.2 != true) = true then (polyglotlaw07_KnownSplits.j3 k true) else (if bt130.2 = true then ((known_Name.f bt130.1).bind fun t132 => (if t132.toList = x2.toList then (polyglotlaw07_KnownSplits.j3 k false) else (polyglotlaw07_KnownSplits.j3 k true))) else (polyglotlaw07_KnownSplits.j3 k (bt130.1 != 0)))) else (if x2.toList = ([108, 111, 97, 100] : List UInt8) then (if (bt130.2 != true) = true then (polyglotlaw07_KnownSplits.j3 k true) else (if bt130.2 = true then ((known_Name.f bt130.1).bind fun t133 => (if t133.toList = x2.toList then (polyglotlaw07_KnownSplits.j3 k false) else (polyglotlaw07_KnownSplits.j3 k true))) else (polyglotlaw07_KnownSplits.j3 k (bt130.1 != 0)))) else (if (bt130.2 != (x2.toList == ([98, 117, 105, 108, 100] : List UInt8))) = true then (polyglotlaw07_KnownSplits.j3 k true) else (if bt130.2 = true then ((known_Name.f bt130.1).bind fun t134 => (if t134.toList = x2.toList then (polyglotlaw07_KnownSplits.j3 k false) else (polyglotlaw07_KnownSplits.j3 k true))) else (polyglotlaw07_KnownSplits.j3 k (bt130.1 != 0)))))))
def polyglotlaw07_KnownSplits.j2 : Nat → Int → List (S40) → ByteArray → List (S40) → List (S40) → Int → Int → Int → Int → Bool → Option (Bool)
  | 0, _, _, _, _, _, _, _, _, _, _ => none
  | k + 1, x0, x1, x2, x7, x8, x9, x10, x11, x12, x67 => if x67 = true then (some false) else ((polyglotlaw07_in.f x0 x12).bind fun t123 => (if t123 = true then (if x9 ≥ (x7.length : Int) then (some false) else (if 0 ≤ x9 then (if x9 < (x7.length : Int) then (if ((rd_T40 x7 x9).f0) = x12 then (if 0 ≤ x11 then (if x11 < (x1.length : Int) then (if (strOfNums ((rd_T40 x7 x9).f1)).toList = (strOfNums ((rd_T40 x1 x11).f1)).toList then (polyglotlaw07_KnownSplits.l0 k x0 x1 x2 x7 x8 (wrap64 (x9 + 1)) x10 (wrap64 (x11 + 1))) else (some false)) else (none)) else (none)) else (some false)) else (none)) else (none))) else (if x10 ≥ (x8.length : Int) then (some false) else (if 0 ≤ x10 then (if x10 < (x8.length : Int) then (if ((rd_T40 x8 x10).f0) = x12 then (if 0 ≤ x11 then (if x11 < (x1.length : Int) then (if (strOfNums ((rd_T40 x8 x10).f1)).toList = (strOfNums ((rd_T40 x1 x11).f1)).toList then (polyglotlaw07_KnownSplits.l0 k x0 x1 x2 x7 x8 x9 (wrap64 (x10 + 1)) (wrap64 (x11 + 1))) else (some false)) else (none)) else (none)) else (some false)) else (none)) else (none)))))
def polyglotlaw07_KnownSplits.j3 : Nat → Bool → Option (Bool)
  | 0, _ => none
  | k + 1, x164 => if x164 = true then (some false) else ((known_Name.f 32).bind fun t135 => (if t135.toList = ([122, 111, 110, 101] : List UInt8) then ((known_Name.f 33).bind fun t136 => (if t136.toList = ([108, 111, 97, 100] : List UInt8) then ((known_Name.f 34).bind fun t137 => (if t137.toList = ([98, 117, 105, 108, 100] : List UInt8) then ((polyglotlaw07_awake.f).bind fun t138 => (some t138)) else (some false))) else (some false))) else (some false)))
end
def polyglotlaw07_KnownSplits.f (k : Nat) (a0 : Int) (l1 : List (S40)) (a2 : ByteArray) : Option (Bool) := (polyglotlaw06_Few.f k l1).bind fun t111 => (if t111 = true then (polyglotlaw07_KnownSplits.j0 k a0 l1 a2 (decide ((a2.size : Int) > 20))) else (polyglotlaw07_KnownSplits.j0 k a0 l1 a2 true))
theorem polyglotlaw07_KnownSplits.mono_l : ∀ k, (∀ y0 y1 y2 y3, LeO (polyglotlaw07_KnownSplits.j0 k y0 y1 y2 y3) (polyglotlaw07_KnownSplits.j0 (k + 1) y0 y1 y2 y3)) ∧ (∀ y0 y1 y2 y3 y4 y5 y6 y7, LeO (polyglotlaw07_KnownSplits.l0 k y0 y1 y2 y3 y4 y5 y6 y7) (polyglotlaw07_KnownSplits.l0 (k + 1) y0 y1 y2 y3 y4 y5 y6 y7)) ∧ (∀ y0 y1 y2 y3 y4 y5 y6 y7 y8 y9, LeO (polyglotlaw07_KnownSplits.j2 k y0 y1 y2 y3 y4 y5 y6 y7 y8 y9) (polyglotlaw07_KnownSplits.j2 (k + 1) y0 y1 y2 y3 y4 y5 y6 y7 y8 y9)) ∧ (∀ y0, LeO (polyglotlaw07_KnownSplits.j3 k y0) (polyglotlaw07_KnownSplits.j3 (k + 1) y0))
  | 0 => ⟨fun _ _ _ _ r h => by simp [polyglotlaw07_KnownSplits.j0] at h, fun _ _ _ _ _ _ _ _ r h => by simp [polyglotlaw07_KnownSplits.l0] at h, fun _ _ _ _ _ _ _ _ _ _ r h => by simp [polyglotlaw07_KnownSplits.j2] at h, fun _ r h => by simp [polyglotlaw07_KnownSplits.j3] at h⟩
  | k + 1 => by
    obtain ⟨ih0, ih1, ih2, ih3⟩ := polyglotlaw07_KnownSplits.mono_l k
    refine ⟨?_, ?_, ?_, ?_⟩
    · intro y0 y1 y2 y3
      unfold polyglotlaw07_KnownSplits.j0
      repeat' first
      | (with_reducible exact ih0 _ _ _ _)
      | (with_reducible exact ih1 _ _ _ _ _ _ _ _)
      | (with_reducible exact ih2 _ _ _ _ _ _ _ _ _ _)
      | (with_reducible exact ih3 _)
      | (with_reducible exact polyglotlaw06_Few.mono _ _)
      | (with_reducible exact LeO.refl _)
      | (with_reducible exact LeO.none _)
      | (with_reducible refine LeO.ite ?_ ?_)
      | (with_reducible refine LeO.bind ?_ (fun _ => ?_))
      | exact ih0 _ _ _ _
      | exact ih1 _ _ _ _ _ _ _ _
      | exact ih2 _ _ _ _ _ _ _ _ _ _
      | exact ih3 _
      | exact polyglotlaw06_Few.mono _ _
      | exact LeO.none _
      | refine LeO.ite ?_ ?_
      | refine LeO.bind ?_ (fun _ => ?_)
    · intro y0 y1 y2 y3 y4 y5 y6 y7
      unfold polyglotlaw07_KnownSplits.l0
      repeat' first
      | (with_reducible exact ih0 _ _ _ _)
      | (with_reducible exact ih1 _ _ _ _ _ _ _ _)
      | (with_reducible exact ih2 _ _ _ _ _ _ _ _ _ _)
      | (with_reducible exact ih3 _)
      | (with_reducible exact polyglotlaw06_Few.mono _ _)
      | (with_reducible exact LeO.refl _)
      | (with_reducible exact LeO.none _)
      | (with_reducible refine LeO.ite ?_ ?_)
      | (with_reducible refine LeO.bind ?_ (fun _ => ?_))
      | exact ih0 _ _ _ _
      | exact ih1 _ _ _ _ _ _ _ _
      | exact ih2 _ _ _ _ _ _ _ _ _ _
      | exact ih3 _
      | exact polyglotlaw06_Few.mono _ _
      | exact LeO.none _
      | refine LeO.ite ?_ ?_
      | refine LeO.bind ?_ (fun _ => ?_)
    · intro y0 y1 y2 y3 y4 y5 y6 y7 y8 y9
      unfold polyglotlaw07_KnownSplits.j2
      repeat' first
      | (with_reducible exact ih0 _ _ _ _)
      | (with_reducible exact ih1 _ _ _ _ _ _ _ _)
      | (with_reducible exact ih2 _ _ _ _ _ _ _ _ _ _)
      | (with_reducible exact ih3 _)
      | (with_reducible exact polyglotlaw06_Few.mono _ _)
      | (with_reducible exact LeO.refl _)
      | (with_reducible exact LeO.none _)
      | (with_reducible refine LeO.ite ?_ ?_)
      | (with_reducible refine LeO.bind ?_ (fun _ => ?_))
      | exact ih0 _ _ _ _
      | exact ih1 _ _ _ _ _ _ _ _
      | exact ih2 _ _ _ _ _ _ _ _ _ _
      | exact ih3 _
      | exact polyglotlaw06_Few.mono _ _
      | exact LeO.none _
      | refine LeO.ite ?_ ?_
      | refine LeO.bind ?_ (fun _ => ?_)
    · intro y0
      unfold polyglotlaw07_KnownSplits.j3
      repeat' first
      | (with_reducible exact ih0 _ _ _ _)
      | (with_reducible exact ih1 _ _ _ _ _ _ _ _)
      | (with_reducible exact ih2 _ _ _ _ _ _ _ _ _ _)
      | (with_reducible exact ih3 _)
      | (with_reducible exact polyglotlaw06_Few.mono _ _)
      | (with_reducible exact LeO.refl _)
      | (with_reducible exact LeO.none _)
      | (with_reducible refine LeO.ite ?_ ?_)
      | (with_reducible refine LeO.bind ?_ (fun _ => ?_))
      | exact ih0 _ _ _ _
      | exact ih1 _ _ _ _ _ _ _ _
      | exact ih2 _ _ _ _ _ _ _ _ _ _
      | exact ih3 _
      | exact polyglotlaw06_Few.mono _ _
      | exact LeO.none _
      | refine LeO.ite ?_ ?_
      | refine LeO.bind ?_ (fun _ => ?_)
theorem polyglotlaw07_KnownSplits.mono : ∀ a0 a1 a2 k, LeO (polyglotlaw07_KnownSplits.f k a0 a1 a2) (polyglotlaw07_KnownSplits.f (k + 1) a0 a1 a2) := by
  intro a0 a1 a2 k
  obtain ⟨ih0, ih1, ih2, ih3⟩ := polyglotlaw07_KnownSplits.mono_l k
  unfold polyglotlaw07_KnownSplits.f
  repeat' first
      | (with_reducible exact ih0 _ _ _ _)
      | (with_reducible exact ih1 _ _ _ _ _ _ _ _)
      | (with_reducible exact ih2 _ _ _ _ _ _ _ _ _ _)
      | (with_reducible exact ih3 _)
      | (with_reducible exact polyglotlaw06_Few.mono _ _)
      | (with_reducible exact LeO.refl _)
      | (with_reducible exact LeO.none _)
      | (with_reducible refine LeO.ite ?_ ?_)
      | (with_reducible refine LeO.bind ?_ (fun _ => ?_))
      | exact ih0 _ _ _ _
      | exact ih1 _ _ _ _ _ _ _ _
      | exact ih2 _ _ _ _ _ _ _ _ _ _
      | exact ih3 _
      | exact polyglotlaw06_Few.mono _ _
      | exact LeO.none _
      | refine LeO.ite ?_ ?_
      | refine LeO.bind ?_ (fun _ => ?_)
set_option maxHeartbeats 8000000 in
set_option maxRecDepth 100000 in
theorem polyglotlaw07_KnownSplits.calls (k : Nat) (a0 : Int) (A1 : Option Addr) (c1 : Nat) (l1 : List (S40)) (a2 : ByteArray) (r : Bool) (w : World) (hr1 : Kd.C k40 w A1 l1.length l1) (hc1 : l1.length ≤ c1) (h : polyglotlaw07_KnownSplits.f k a0 l1 a2 = some r) :
    Calls Try.prog 4 #[.int .i64 a0, .slice A1 l1.length c1, .string a2] w fun e w' => e = .returned (.bool r) ∧ Below w.heap.size w w' := by
  have HR1 := Aside0.mk hr1
  have HC1 := Aside0.mk hc1
  clear hr1 hc1
  have HB := Aside0.mk (Below.refl w.heap.size w)
  have H : ((polyglotlaw06_Few.f k l1).bind fun t111 => (if t111 = true then (polyglotlaw07_KnownSplits.j0 k a0 l1 a2 (decide ((a2.size : Int) > 20))) else (polyglotlaw07_KnownSplits.j0 k a0 l1 a2 true))) = some r := h
  clear h
  have HC4 := Aside0.mk H
  clear H
  go_enter Try.func4, Try.ntmps4
  go_upto_region 1 with (fail)
  repeat (go_quiet (fail); go_upto_region 1 with (fail))
  go_cut [22] (fun v22 wc => ∃ (kq : Nat) (x22_3 : Bool), v22 = .bool x22_3 ∧ Aside0 (polyglotlaw07_KnownSplits.j0 kq a0 l1 a2 x22_3 = some r) ∧ Aside0 (kq ≤ k) ∧ Aside0 (Below w.heap.size w wc))
  case first =>
    have H := HC4.out
    clear HC4
    replace H := Option.bind_eq_some_iff.mp H
    obtain ⟨t111, A50, H⟩ := H
    replace H : (if t111 = true then (polyglotlaw07_KnownSplits.j0 k a0 l1 a2 (decide ((a2.size : Int) > 20))) else (polyglotlaw07_KnownSplits.j0 k a0 l1 a2 true)) = some r := H
    have A5 := Aside0.mk A50
    clear A50
    by_cases c6 : t111 = true
    · subst c6
      have H1 : (polyglotlaw07_KnownSplits.j0 k a0 l1 a2 (decide ((a2.size : Int) > 20))) = some r := by rw [if_pos rfl] at H; exact H
      clear H
      have H := H1
      clear H1
      have H' := Aside0.mk H
      clear H
      as_aux_lemma =>
        go_wp2_with (first | (go_at_call 21; (with_reducible refine (polyglotlaw06_Few.calls k _ _ l1 true _ ?side1 ?side2 A5.out).mono ?_); (case side1 => repeat (first | exact (Kd.C_below HR1.out HB.out) | (with_reducible refine Kd.C_alloc ?_ _) | (with_reducible refine Kd.C_drewN ?_ _) | (with_reducible refine Kd.C_drew ?_))); (case side2 => exact HC1.out); rintro e w' ⟨rfl, ⟨nd, rfl⟩⟩; (try first | exact ⟨rfl, _, World.drewN_drewN _ _ _⟩ | exact ⟨rfl, _, Eq.trans (World.drewN_drewN _ _ _) (congrArg (World.drewN _) (Nat.add_assoc _ _ _))⟩)))
        repeat (go_quiet (first | (go_at_call 21; (with_reducible refine (polyglotlaw06_Few.calls k _ _ l1 true _ ?side1 ?side2 A5.out).mono ?_); (case side1 => repeat (first | exact (Kd.C_below HR1.out HB.out) | (with_reducible refine Kd.C_alloc ?_ _) | (with_reducible refine Kd.C_drewN ?_ _) | (with_reducible refine Kd.C_drew ?_))); (case side2 => exact HC1.out); rintro e w' ⟨rfl, ⟨nd, rfl⟩⟩; (try first | exact ⟨rfl, _, World.drewN_drewN _ _ _⟩ | exact ⟨rfl, _, Eq.trans (World.drewN_drewN _ _ _) (congrArg (World.drewN _) (Nat.add_assoc _ _ _))⟩))); try go_wp2_with (first | (go_at_call 21; (with_reducible refine (polyglotlaw06_Few.calls k _ _ l1 true _ ?side1 ?side2 A5.out).mono ?_); (case side1 => repeat (first | exact (Kd.C_below HR1.out HB.out) | (with_reducible refine Kd.C_alloc ?_ _) | (with_reducible refine Kd.C_drewN ?_ _) | (with_reducible refine Kd.C_drew ?_))); (case side2 => exact HC1.out); rintro e w' ⟨rfl, ⟨nd, rfl⟩⟩; (try first | exact ⟨rfl, _, World.drewN_drewN _ _ _⟩ | exact ⟨rfl, _, Eq.trans (World.drewN_drewN _ _ _) (congrArg (World.drewN _) (Nat.add_assoc _ _ _))⟩))))
        go_meet
        case rel => exact ⟨_, (decide ((a2.size : Int) > 20)), (by first | rfl | (simp; done) | (simp [*]; done)), H', ⟨by first | omega | exact Nat.le_refl _⟩, ⟨by repeat (first | (with_reducible first | exact HB.out | apply below_alloc | apply pw_below_drewN | apply below_drew1) | exact HB.out)⟩⟩
    · replace c6 := Bool.eq_false_iff.mpr c6
      subst c6
      have H1 : (polyglotlaw07_KnownSplits.j0 k a0 l1 a2 true) = some r := by rw [if_neg (show ¬ (false = true) by decide)] at H; exact H
      clear H
      have H := H1
      clear H1
      have H' := Aside0.mk H
      clear H
      as_aux_lemma =>
        go_wp2_with (first | (go_at_call 21; (with_reducible refine (polyglotlaw06_Few.calls k _ _ l1 false _ ?side1 ?side2 A5.out).mono ?_); (case side1 => repeat (first | exact (Kd.C_below HR1.out HB.out) | (with_reducible refine Kd.C_alloc ?_ _) | (with_reducible refine Kd.C_drewN ?_ _) | (with_reducible refine Kd.C_drew ?_))); (case side2 => exact HC1.out); rintro e w' ⟨rfl, ⟨nd, rfl⟩⟩; (try first | exact ⟨rfl, _, World.drewN_drewN _ _ _⟩ | exact ⟨rfl, _, Eq.trans (World.drewN_drewN _ _ _) (congrArg (World.drewN _) (Nat.add_assoc _ _ _))⟩)))
        repeat (go_quiet (first | (go_at_call 21; (with_reducible refine (polyglotlaw06_Few.calls k _ _ l1 false _ ?side1 ?side2 A5.out).mono ?_); (case side1 => repeat (first | exact (Kd.C_below HR1.out HB.out) | (with_reducible refine Kd.C_alloc ?_ _) | (with_reducible refine Kd.C_drewN ?_ _) | (with_reducible refine Kd.C_drew ?_))); (case side2 => exact HC1.out); rintro e w' ⟨rfl, ⟨nd, rfl⟩⟩; (try first | exact ⟨rfl, _, World.drewN_drewN _ _ _⟩ | exact ⟨rfl, _, Eq.trans (World.drewN_drewN _ _ _) (congrArg (World.drewN _) (Nat.add_assoc _ _ _))⟩))); try go_wp2_with (first | (go_at_call 21; (with_reducible refine (polyglotlaw06_Few.calls k _ _ l1 false _ ?side1 ?side2 A5.out).mono ?_); (case side1 => repeat (first | exact (Kd.C_below HR1.out HB.out) | (with_reducible refine Kd.C_alloc ?_ _) | (with_reducible refine Kd.C_drewN ?_ _) | (with_reducible refine Kd.C_drew ?_))); (case side2 => exact HC1.out); rintro e w' ⟨rfl, ⟨nd, rfl⟩⟩; (try first | exact ⟨rfl, _, World.drewN_drewN _ _ _⟩ | exact ⟨rfl, _, Eq.trans (World.drewN_drewN _ _ _) (congrArg (World.drewN _) (Nat.add_assoc _ _ _))⟩))))
        go_meet
        case rel => exact ⟨_, (true), (by first | rfl | (simp; done) | (simp [*]; done)), H', ⟨by first | omega | exact Nat.le_refl _⟩, ⟨by repeat (first | (with_reducible first | exact HB.out | apply below_alloc | apply pw_below_drewN | apply below_drew1) | exact HB.out)⟩⟩
  case rest =>
    clear HC4
    try clear c1
    try clear p2
    try clear c4
    try clear c6
    obtain ⟨kq, x22_3, rfl, HA, HJ3, HB⟩ := hcut
    cases kq with
    | zero => exact absurd HA.out (by simp [polyglotlaw07_KnownSplits.j0])
    | succ kj3 =>
      have H := HA.out
      clear HA
      simp only [polyglotlaw07_KnownSplits.j0] at H
      by_cases c7 : x22_3 = true
      · subst c7
        have H1 : ((polyglotlaw07_awake.f).bind fun t112 => (some t112)) = some r := by rw [if_pos rfl] at H; exact H
        clear H
        have H := H1
        clear H1
        replace H := Option.bind_eq_some_iff.mp H
        obtain ⟨t112, A80, H⟩ := H
        replace H : (some t112) = some r := H
        have A8 := Aside0.mk A80
        clear A80
        obtain rfl := Option.some.inj H
        as_aux_lemma =>
          go_wp2_with (first | (go_at_call 22; (with_reducible refine (polyglotlaw07_awake.calls  t112 _ A8.out).mono ?_); rintro e w9 ⟨rfl, hb⟩; have n0_ := Aside0.mk (below_step (by repeat (first | (with_reducible first | exact HB.out | apply below_alloc | apply pw_below_drewN | apply below_drew1) | exact HB.out)) hb); clear HB; have HB := n0_; clear n0_; (try clear hb); (try clear hb2); (try clear hk); (try clear hi)))
          repeat (go_quiet (first | (go_at_call 22; (with_reducible refine (polyglotlaw07_awake.calls  t112 _ A8.out).mono ?_); rintro e w9 ⟨rfl, hb⟩; have n0_ := Aside0.mk (below_step (by repeat (first | (with_reducible first | exact HB.out | apply below_alloc | apply pw_below_drewN | apply below_drew1) | exact HB.out)) hb); clear HB; have HB := n0_; clear n0_; (try clear hb); (try clear hb2); (try clear hk); (try clear hi))); try go_wp2_with (first | (go_at_call 22; (with_reducible refine (polyglotlaw07_awake.calls  t112 _ A8.out).mono ?_); rintro e w9 ⟨rfl, hb⟩; have n0_ := Aside0.mk (below_step (by repeat (first | (with_reducible first | exact HB.out | apply below_alloc | apply pw_below_drewN | apply below_drew1) | exact HB.out)) hb); clear HB; have HB := n0_; clear n0_; (try clear hb); (try clear hb2); (try clear hk); (try clear hi))))
          go_ret
          exact ⟨by first | rfl | (simp [errW_none, errW_some] <;> rfl) | (simp [*, errW_none, errW_some] <;> rfl), by repeat (first | (with_reducible first | exact HB.out | apply below_alloc | apply pw_below_drewN | apply below_drew1) | exact HB.out)⟩
      · replace c7 := Bool.eq_false_iff.mpr c7
        subst c7
        have H1 : ((known_Known.f a0 l1).bind fun t113 => ((known_Unknown.f a0 l1).bind fun t116 => (if (wrap64 ((t113.length : Int) + (t116.length : Int))) = (l1.length : Int) then (polyglotlaw07_KnownSplits.l0 kj3 a0 l1 a2 t113 t116 0 0 0) else (some false)))) = some r := by rw [if_neg (show ¬ (false = true) by decide)] at H; exact H
        clear H
        have H := H1
        clear H1
        replace H := Option.bind_eq_some_iff.mp H
        obtain ⟨t113, A100, H⟩ := H
        replace H : ((known_Unknown.f a0 l1).bind fun t116 => (if (wrap64 ((t113.length : Int) + (t116.length : Int))) = (l1.length : Int) then (polyglotlaw07_KnownSplits.l0 kj3 a0 l1 a2 t113 t116 0 0 0) else (some false))) = some r := H
        have A10 := Aside0.mk A100
        clear A100
        replace H := Option.bind_eq_some_iff.mp H
        obtain ⟨t116, A110, H⟩ := H
        replace H : (if (wrap64 ((t113.length : Int) + (t116.length : Int))) = (l1.length : Int) then (polyglotlaw07_KnownSplits.l0 kj3 a0 l1 a2 t113 t116 0 0 0) else (some false)) = some r := H
        have A11 := Aside0.mk A110
        clear A110
        by_cases c12 : (wrap64 ((t113.length : Int) + (t116.length : Int))) = (l1.length : Int)
        · rw [if_pos c12] at H
          have c12b0 : ((wrap64 ((t113.length : Int) + (t116.length : Int))) == (l1.length : Int)) = true := beq_iff_eq.mpr c12
          have c12b1 : ((wrap64 ((t113.length : Int) + (t116.length : Int))) != (l1.length : Int)) = false := bne_eq_false_iff_eq.mpr c12
          clear c12
          have H' := Aside0.mk H
          clear H
          go_wp2_with (first | (go_at_call 23; (with_reducible refine (known_Known.calls a0 _ _ l1 t113 _ ?side1 ?side2 A10.out).mono ?_); (case side1 => repeat (first | exact (Kd.C_below HR1.out HB.out) | (with_reducible refine Kd.C_alloc ?_ _) | (with_reducible refine Kd.C_drewN ?_ _) | (with_reducible refine Kd.C_drew ?_))); (case side2 => exact HC1.out); rintro e w13 ⟨v114, rfl, ho0, hb⟩; have n0_ := Aside0.mk (Kd.N_lower (Kd.N_mono (ok' := fun k_ => True) ho0 (fun k_ hk_ => trivial)) (below_size (by repeat (first | (with_reducible first | exact HB.out | apply below_alloc | apply pw_below_drewN | apply below_drew1) | exact HB.out)))); have n1_ := Aside0.mk (below_step (by repeat (first | (with_reducible first | exact HB.out | apply below_alloc | apply pw_below_drewN | apply below_drew1) | exact HB.out)) hb); clear HB; have HO115 := n0_; have HB := n1_; clear n0_ n1_; (try clear hb); (try clear hb2); (try clear hk); (try clear hi); (try clear ho0)) | (go_at_call 24; (with_reducible refine (known_Unknown.calls a0 _ _ l1 t116 _ ?side1 ?side2 A11.out).mono ?_); (case side1 => repeat (first | exact (Kd.C_below HR1.out HB.out) | (with_reducible refine Kd.C_alloc ?_ _) | (with_reducible refine Kd.C_drewN ?_ _) | (with_reducible refine Kd.C_drew ?_))); (case side2 => exact HC1.out); rintro e w14 ⟨v117, rfl, ho0, hb⟩; have n0_ := Aside0.mk (Kd.N_elder' (by (with_reducible repeat (first | apply Kd.N_alloc | apply Kd.N_drewN | apply Kd.N_drew)); exact HO115.out) (by first | exact Kd.N_base ho0 | exact Kd.S_base ho0 | exact Kd.R_base ho0) hb); have n1_ := Aside0.mk (Kd.N_lower (Kd.N_mono (ok' := fun k_ => some k_ ≠ (v114 : Value).ownBlock) ho0 (fun k_ hk_ => (Kd.fresh' (Kd.N_lt (by (with_reducible repeat (first | apply Kd.N_alloc | apply Kd.N_drewN | apply Kd.N_drew)); exact HO115.out)) k_ hk_))) (below_size (by repeat (first | (with_reducible first | exact HB.out | apply below_alloc | apply pw_below_drewN | apply below_drew1) | exact HB.out)))); have n2_ := Aside0.mk (below_step (by repeat (first | (with_reducible first | exact HB.out | apply below_alloc | apply pw_below_drewN | apply below_drew1) | exact HB.out)) hb); clear HO115; clear HB; have HO115 := n0_; have HO118 := n1_; have HB := n2_; clear n0_ n1_ n2_; (try clear hb); (try clear hb2); (try clear hk); (try clear hi); (try clear ho0); obtain ⟨Ao15, co15, eo15⟩ := Kd.N_slice HO115.out; subst eo15; obtain ⟨Ao16, co16, eo16⟩ := Kd.N_slice HO118.out; subst eo16))
          repeat (go_quiet (first | (go_at_call 23; (with_reducible refine (known_Known.calls a0 _ _ l1 t113 _ ?side1 ?side2 A10.out).mono ?_); (case side1 => repeat (first | exact (Kd.C_below HR1.out HB.out) | (with_reducible refine Kd.C_alloc ?_ _) | (with_reducible refine Kd.C_drewN ?_ _) | (with_reducible refine Kd.C_drew ?_))); (case side2 => exact HC1.out); rintro e w13 ⟨v114, rfl, ho0, hb⟩; have n0_ := Aside0.mk (Kd.N_lower (Kd.N_mono (ok' := fun k_ => True) ho0 (fun k_ hk_ => trivial)) (below_size (by repeat (first | (with_reducible first | exact HB.out | apply below_alloc | apply pw_below_drewN | apply below_drew1) | exact HB.out)))); have n1_ := Aside0.mk (below_step (by repeat (first | (with_reducible first | exact HB.out | apply below_alloc | apply pw_below_drewN | apply below_drew1) | exact HB.out)) hb); clear HB; have HO115 := n0_; have HB := n1_; clear n0_ n1_; (try clear hb); (try clear hb2); (try clear hk); (try clear hi); (try clear ho0)) | (go_at_call 24; (with_reducible refine (known_Unknown.calls a0 _ _ l1 t116 _ ?side1 ?side2 A11.out).mono ?_); (case side1 => repeat (first | exact (Kd.C_below HR1.out HB.out) | (with_reducible refine Kd.C_alloc ?_ _) | (with_reducible refine Kd.C_drewN ?_ _) | (with_reducible refine Kd.C_drew ?_))); (case side2 => exact HC1.out); rintro e w14 ⟨v117, rfl, ho0, hb⟩; have n0_ := Aside0.mk (Kd.N_elder' (by (with_reducible repeat (first | apply Kd.N_alloc | apply Kd.N_drewN | apply Kd.N_drew)); exact HO115.out) (by first | exact Kd.N_base ho0 | exact Kd.S_base ho0 | exact Kd.R_base ho0) hb); have n1_ := Aside0.mk (Kd.N_lower (Kd.N_mono (ok' := fun k_ => some k_ ≠ (v114 : Value).ownBlock) ho0 (fun k_ hk_ => (Kd.fresh' (Kd.N_lt (by (with_reducible repeat (first | apply Kd.N_alloc | apply Kd.N_drewN | apply Kd.N_drew)); exact HO115.out)) k_ hk_))) (below_size (by repeat (first | (with_reducible first | exact HB.out | apply below_alloc | apply pw_below_drewN | apply below_drew1) | exact HB.out)))); have n2_ := Aside0.mk (below_step (by repeat (first | (with_reducible first | exact HB.out | apply below_alloc | apply pw_below_drewN | apply below_drew1) | exact HB.out)) hb); clear HO115; clear HB; have HO115 := n0_; have HO118 := n1_; have HB := n2_; clear n0_ n1_ n2_; (try clear hb); (try clear hb2); (try clear hk); (try clear hi); (try clear ho0); obtain ⟨Ao15, co15, eo15⟩ := Kd.N_slice HO115.out; subst eo15; obtain ⟨Ao16, co16, eo16⟩ := Kd.N_slice HO118.out; subst eo16)); try go_wp2_with (first | (go_at_call 23; (with_reducible refine (known_Known.calls a0 _ _ l1 t113 _ ?side1 ?side2 A10.out).mono ?_); (case side1 => repeat (first | exact (Kd.C_below HR1.out HB.out) | (with_reducible refine Kd.C_alloc ?_ _) | (with_reducible refine Kd.C_drewN ?_ _) | (with_reducible refine Kd.C_drew ?_))); (case side2 => exact HC1.out); rintro e w13 ⟨v114, rfl, ho0, hb⟩; have n0_ := Aside0.mk (Kd.N_lower (Kd.N_mono (ok' := fun k_ => True) ho0 (fun k_ hk_ => trivial)) (below_size (by repeat (first | (with_reducible first | exact HB.out | apply below_alloc | apply pw_below_drewN | apply below_drew1) | exact HB.out)))); have n1_ := Aside0.mk (below_step (by repeat (first | (with_reducible first | exact HB.out | apply below_alloc | apply pw_below_drewN | apply below_drew1) | exact HB.out)) hb); clear HB; have HO115 := n0_; have HB := n1_; clear n0_ n1_; (try clear hb); (try clear hb2); (try clear hk); (try clear hi); (try clear ho0)) | (go_at_call 24; (with_reducible refine (known_Unknown.calls a0 _ _ l1 t116 _ ?side1 ?side2 A11.out).mono ?_); (case side1 => repeat (first | exact (Kd.C_below HR1.out HB.out) | (with_reducible refine Kd.C_alloc ?_ _) | (with_reducible refine Kd.C_drewN ?_ _) | (with_reducible refine Kd.C_drew ?_))); (case side2 => exact HC1.out); rintro e w14 ⟨v117, rfl, ho0, hb⟩; have n0_ := Aside0.mk (Kd.N_elder' (by (with_reducible repeat (first | apply Kd.N_alloc | apply Kd.N_drewN | apply Kd.N_drew)); exact HO115.out) (by first | exact Kd.N_base ho0 | exact Kd.S_base ho0 | exact Kd.R_base ho0) hb); have n1_ := Aside0.mk (Kd.N_lower (Kd.N_mono (ok' := fun k_ => some k_ ≠ (v114 : Value).ownBlock) ho0 (fun k_ hk_ => (Kd.fresh' (Kd.N_lt (by (with_reducible repeat (first | apply Kd.N_alloc | apply Kd.N_drewN | apply Kd.N_drew)); exact HO115.out)) k_ hk_))) (below_size (by repeat (first | (with_reducible first | exact HB.out | apply below_alloc | apply pw_below_drewN | apply below_drew1) | exact HB.out)))); have n2_ := Aside0.mk (below_step (by repeat (first | (with_reducible first | exact HB.out | apply below_alloc | apply pw_below_drewN | apply below_drew1) | exact HB.out)) hb); clear HO115; clear HB; have HO115 := n0_; have HO118 := n1_; have HB := n2_; clear n0_ n1_ n2_; (try clear hb); (try clear hb2); (try clear hk); (try clear hi); (try clear ho0); obtain ⟨Ao15, co15, eo15⟩ := Kd.N_slice HO115.out; subst eo15; obtain ⟨Ao16, co16, eo16⟩ := Kd.N_slice HO118.out; subst eo16)))
          go_loopg [9, 10, 11] kj3 (fun kq v9 v10 v11 w' => ∃ (x9_2 : Int) (x10_2 : Int) (x11_2 : Int), v9 = .int .i64 x9_2 ∧ v10 = .int .i64 x10_2 ∧ v11 = .int .i64 x11_2 ∧ Aside0 (polyglotlaw07_KnownSplits.l0 kq a0 l1 a2 t113 t116 x9_2 x10_2 x11_2 = some r) ∧ Aside0 (kq ≤ kj3) ∧ Aside0 (Kd.N k40 40 w' w.heap.size (fun k_ => some k_ ≠ ((.slice Ao16 t116.length co16) : Value).ownBlock) (.slice Ao15 t113.length co15) t113) ∧ Aside0 (Kd.N k40 40 w' w.heap.size (fun k_ => some k_ ≠ ((.slice Ao15 t113.length co15) : Value).ownBlock) (.slice Ao16 t116.length co16) t116) ∧ Aside0 (Below w.heap.size w w'))
          case atStart => exact ⟨(0), (0), (0), (by first | rfl | (simp; done) | (simp [*]; done)), (by first | rfl | (simp; done) | (simp [*]; done)), (by first | rfl | (simp; done) | (simp [*]; done)), H', ⟨Nat.le_refl _⟩, ⟨by (with_reducible repeat (first | apply Kd.N_alloc | apply Kd.N_drewN | apply Kd.N_drew)); exact Kd.N_mono HO115.out (fun _ hk => hk.2)⟩, ⟨by (with_reducible repeat (first | apply Kd.N_alloc | apply Kd.N_drewN | apply Kd.N_drew)); exact HO118.out⟩, ⟨by repeat (first | (with_reducible first | exact HB.out | apply below_alloc | apply pw_below_drewN | apply below_drew1) | exact HB.out)⟩⟩
          case round =>
            clear H'
            try clear c1
            try clear p2
            try clear c4
            try clear c6
            try clear p6
            try clear c7
            try clear c12
            try clear c12b0
            try clear c12b1
            try clear p2
            obtain ⟨x9_2, x10_2, x11_2, rfl, rfl, rfl, HA, HK2, HO_7, HO_8, HB⟩ := hrel
            cases gk with
            | zero => exact absurd HA.out (by simp [polyglotlaw07_KnownSplits.l0])
            | succ k2 =>
              have H := HA.out
              clear HA
              simp only [polyglotlaw07_KnownSplits.l0] at H
              by_cases c17 : x11_2 < (l1.length : Int)
              · rw [if_pos c17] at H
                have c17b0 : decide (x11_2 < (l1.length : Int)) = true := decide_eq_true c17
                clear c17
                by_cases c18 : 0 ≤ x11_2
                · rw [if_pos c18] at H
                  have c18b0 : decide (0 ≤ x11_2) = true := decide_eq_true c18
                  clear c18
                  have HC19 := Aside0.mk H
                  clear H
                  have p119 : 0 ≤ (x11_2 : Int) := of_decide_eq_true (by first | (with_reducible assumption) | assumption)
                  have q119 : x11_2 < (l1.length : Int) := of_decide_eq_true (by first | (with_reducible assumption) | assumption)
                  obtain ⟨ad119, A119_1, c119_1, e119, hx119_0, hx119_1, hl119_1, hi119_1⟩ := at_T40 HR1.out x11_2 p119 q119
                  cases e119
                  replace hx119_0 := (HB.out.cell (World.block_lt_of_cell? w _ hx119_0)).trans hx119_0
                  replace hx119_1 := (HB.out.cell (World.block_lt_of_cell? w _ hx119_1)).trans hx119_1
                  have HR119_1 := Aside0.mk hi119_1
                  have HC119_1 := Aside0.mk hl119_1
                  clear hi119_1 hl119_1
                  replace p119 := eq_true p119
                  replace q119 := eq_true q119
                  go_upto_region 13 with (fail)
                  repeat (go_quiet (fail); go_upto_region 13 with (fail))
                  go_cut [67] (fun v67 wc => ∃ (kq : Nat) (x67_18 : Bool), v67 = .bool x67_18 ∧ Aside0 (polyglotlaw07_KnownSplits.j2 kq a0 l1 a2 t113 t116 x9_2 x10_2 x11_2 ((rd_T40 l1 x11_2).f0) x67_18 = some r) ∧ Aside0 (kq ≤ k2) ∧ Aside0 (Kd.N k40 40 wc w.heap.size (fun k_ => some k_ ≠ ((.slice Ao16 t116.length co16) : Value).ownBlock) (.slice Ao15 t113.length co15) t113) ∧ Aside0 (Kd.N k40 40 wc w.heap.size (fun k_ => some k_ ≠ ((.slice Ao15 t113.length co15) : Value).ownBlock) (.slice Ao16 t116.length co16) t116) ∧ Aside0 (Below w.heap.size w wc))
                  case first =>
                    have H := HC19.out
                    clear HC19
                    replace H := Option.bind_eq_some_iff.mp H
                    obtain ⟨t120, A200, H⟩ := H
                    replace H : ((polyglotlaw07_in.f a0 ((rd_T40 l1 x11_2).f0)).bind fun t121 => (if (t120 != t121) = true then (polyglotlaw07_KnownSplits.j2 k2 a0 l1 a2 t113 t116 x9_2 x10_2 x11_2 ((rd_T40 l1 x11_2).f0) true) else ((known_Name.f ((rd_T40 l1 x11_2).f0)).bind fun t122 => (if ((rd_T40 l1 x11_2).f0) ≥ 32 then (if ((rd_T40 l1 x11_2).f0) ≤ 34 then (polyglotlaw07_KnownSplits.j2 k2 a0 l1 a2 t113 t116 x9_2 x10_2 x11_2 ((rd_T40 l1 x11_2).f0) (!(t122.toList != ([] : List UInt8)))) else (polyglotlaw07_KnownSplits.j2 k2 a0 l1 a2 t113 t116 x9_2 x10_2 x11_2 ((rd_T40 l1 x11_2).f0) (t122.toList != ([] : List UInt8)))) else (polyglotlaw07_KnownSplits.j2 k2 a0 l1 a2 t113 t116 x9_2 x10_2 x11_2 ((rd_T40 l1 x11_2).f0) ((t122.toList != ([] : List UInt8)) != false)))))) = some r := H
                    have A20 := Aside0.mk A200
                    clear A200
                    replace H := Option.bind_eq_some_iff.mp H
                    obtain ⟨t121, A210, H⟩ := H
                    replace H : (if (t120 != t121) = true then (polyglotlaw07_KnownSplits.j2 k2 a0 l1 a2 t113 t116 x9_2 x10_2 x11_2 ((rd_T40 l1 x11_2).f0) true) else ((known_Name.f ((rd_T40 l1 x11_2).f0)).bind fun t122 => (if ((rd_T40 l1 x11_2).f0) ≥ 32 then (if ((rd_T40 l1 x11_2).f0) ≤ 34 then (polyglotlaw07_KnownSplits.j2 k2 a0 l1 a2 t113 t116 x9_2 x10_2 x11_2 ((rd_T40 l1 x11_2).f0) (!(t122.toList != ([] : List UInt8)))) else (polyglotlaw07_KnownSplits.j2 k2 a0 l1 a2 t113 t116 x9_2 x10_2 x11_2 ((rd_T40 l1 x11_2).f0) (t122.toList != ([] : List UInt8)))) else (polyglotlaw07_KnownSplits.j2 k2 a0 l1 a2 t113 t116 x9_2 x10_2 x11_2 ((rd_T40 l1 x11_2).f0) ((t122.toList != ([] : List UInt8)) != false))))) = some r := H
                    have A21 := Aside0.mk A210
                    clear A210
                    by_cases c22 : (t120 != t121) = true
                    · rw [if_pos c22] at H
                      have c22b0 : (t120 != t121) = true := c22
                      (try (have c22b1 : decide (t120 = t121) = false := by simpa using c22))
                      (try (have c22b2 : (t120 == t121) = false := by simpa using c22))
                      (try (have c22b3 : ¬ (t120 = t121) := by simpa using c22))
                      clear c22
                      (first | rw [c22b0] | (simp only [i64_w, i32_w]; rw [c22b0]) | skip)
                      have H' := Aside0.mk H
                      clear H
                      as_aux_lemma =>
                        go_wp2_with (first | (go_at_call 25; (with_reducible refine (known_Knows.calls a0 ((rd_T40 l1 x11_2).f0) t120 _ A20.out).mono ?_); rintro e w' ⟨rfl, ⟨nd, rfl⟩⟩; (try first | exact ⟨rfl, _, World.drewN_drewN _ _ _⟩ | exact ⟨rfl, _, Eq.trans (World.drewN_drewN _ _ _) (congrArg (World.drewN _) (Nat.add_assoc _ _ _))⟩)) | (go_at_call 26; (with_reducible refine (polyglotlaw07_in.calls a0 ((rd_T40 l1 x11_2).f0) t121 _ A21.out).mono ?_); rintro e w' ⟨rfl, ⟨nd, rfl⟩⟩; (try first | exact ⟨rfl, _, World.drewN_drewN _ _ _⟩ | exact ⟨rfl, _, Eq.trans (World.drewN_drewN _ _ _) (congrArg (World.drewN _) (Nat.add_assoc _ _ _))⟩)))
                        repeat (go_quiet (first | (go_at_call 25; (with_reducible refine (known_Knows.calls a0 ((rd_T40 l1 x11_2).f0) t120 _ A20.out).mono ?_); rintro e w' ⟨rfl, ⟨nd, rfl⟩⟩; (try first | exact ⟨rfl, _, World.drewN_drewN _ _ _⟩ | exact ⟨rfl, _, Eq.trans (World.drewN_drewN _ _ _) (congrArg (World.drewN _) (Nat.add_assoc _ _ _))⟩)) | (go_at_call 26; (with_reducible refine (polyglotlaw07_in.calls a0 ((rd_T40 l1 x11_2).f0) t121 _ A21.out).mono ?_); rintro e w' ⟨rfl, ⟨nd, rfl⟩⟩; (try first | exact ⟨rfl, _, World.drewN_drewN _ _ _⟩ | exact ⟨rfl, _, Eq.trans (World.drewN_drewN _ _ _) (congrArg (World.drewN _) (Nat.add_assoc _ _ _))⟩))); try go_wp2_with (first | (go_at_call 25; (with_reducible refine (known_Knows.calls a0 ((rd_T40 l1 x11_2).f0) t120 _ A20.out).mono ?_); rintro e w' ⟨rfl, ⟨nd, rfl⟩⟩; (try first | exact ⟨rfl, _, World.drewN_drewN _ _ _⟩ | exact ⟨rfl, _, Eq.trans (World.drewN_drewN _ _ _) (congrArg (World.drewN _) (Nat.add_assoc _ _ _))⟩)) | (go_at_call 26; (with_reducible refine (polyglotlaw07_in.calls a0 ((rd_T40 l1 x11_2).f0) t121 _ A21.out).mono ?_); rintro e w' ⟨rfl, ⟨nd, rfl⟩⟩; (try first | exact ⟨rfl, _, World.drewN_drewN _ _ _⟩ | exact ⟨rfl, _, Eq.trans (World.drewN_drewN _ _ _) (congrArg (World.drewN _) (Nat.add_assoc _ _ _))⟩))))
                        go_meet
                        case rel => exact ⟨_, (true), (by first | rfl | (simp; done) | (simp [*]; done)), H', ⟨by have := HJ3.out; have := HK2.out; first | omega | exact Nat.le_refl _⟩, ⟨by (with_reducible repeat (first | apply Kd.N_alloc | apply Kd.N_drewN | apply Kd.N_drew)); exact HO_7.out⟩, ⟨by (with_reducible repeat (first | apply Kd.N_alloc | apply Kd.N_drewN | apply Kd.N_drew)); exact HO_8.out⟩, ⟨by repeat (first | (with_reducible first | exact HB.out | apply below_alloc | apply pw_below_drewN | apply below_drew1) | exact HB.out)⟩⟩
                    · rw [if_neg c22] at H
                      have c22b0 : (t120 != t121) = false := by simpa using c22
                      (try (have c22b1 : decide (t120 = t121) = true := by simpa using c22))
                      (try (have c22b2 : (t120 == t121) = true := by simpa using c22))
                      clear c22
                      (first | rw [c22b0] | (simp only [i64_w, i32_w]; rw [c22b0]) | skip)
                      replace H := Option.bind_eq_some_iff.mp H
                      obtain ⟨t122, A230, H⟩ := H
                      replace H : (if ((rd_T40 l1 x11_2).f0) ≥ 32 then (if ((rd_T40 l1 x11_2).f0) ≤ 34 then (polyglotlaw07_KnownSplits.j2 k2 a0 l1 a2 t113 t116 x9_2 x10_2 x11_2 ((rd_T40 l1 x11_2).f0) (!(t122.toList != ([] : List UInt8)))) else (polyglotlaw07_KnownSplits.j2 k2 a0 l1 a2 t113 t116 x9_2 x10_2 x11_2 ((rd_T40 l1 x11_2).f0) (t122.toList != ([] : List UInt8)))) else (polyglotlaw07_KnownSplits.j2 k2 a0 l1 a2 t113 t116 x9_2 x10_2 x11_2 ((rd_T40 l1 x11_2).f0) ((t122.toList != ([] : List UInt8)) != false))) = some r := H
                      have A23 := Aside0.mk A230
                      clear A230
                      by_cases c24 : ((rd_T40 l1 x11_2).f0) ≥ 32
                      · rw [if_pos c24] at H
                        have c24b0 : decide (32 ≤ ((rd_T40 l1 x11_2).f0)) = true := decide_eq_true c24
                        clear c24
                        by_cases c25 : ((rd_T40 l1 x11_2).f0) ≤ 34
                        · rw [if_pos c25] at H
                          have c25b0 : decide (((rd_T40 l1 x11_2).f0) ≤ 34) = true := decide_eq_true c25
                          clear c25
                          have H' := Aside0.mk H
                          clear H
                          as_aux_lemma =>
                            go_wp2_with (first | (go_at_call 25; (with_reducible refine (known_Knows.calls a0 ((rd_T40 l1 x11_2).f0) t120 _ A20.out).mono ?_); rintro e w' ⟨rfl, ⟨nd, rfl⟩⟩; (try first | exact ⟨rfl, _, World.drewN_drewN _ _ _⟩ | exact ⟨rfl, _, Eq.trans (World.drewN_drewN _ _ _) (congrArg (World.drewN _) (Nat.add_assoc _ _ _))⟩)) | (go_at_call 26; (with_reducible refine (polyglotlaw07_in.calls a0 ((rd_T40 l1 x11_2).f0) t121 _ A21.out).mono ?_); rintro e w' ⟨rfl, ⟨nd, rfl⟩⟩; (try first | exact ⟨rfl, _, World.drewN_drewN _ _ _⟩ | exact ⟨rfl, _, Eq.trans (World.drewN_drewN _ _ _) (congrArg (World.drewN _) (Nat.add_assoc _ _ _))⟩)) | (go_at_call 27; (with_reducible refine (known_Name.calls ((rd_T40 l1 x11_2).f0) t122 _ A23.out).mono ?_); rintro e w26 ⟨rfl, hb⟩; have n0_ := Aside0.mk (Kd.N_below (by (with_reducible repeat (first | apply Kd.N_alloc | apply Kd.N_drewN | apply Kd.N_drew)); exact HO_7.out) hb); have n1_ := Aside0.mk (Kd.N_below (by (with_reducible repeat (first | apply Kd.N_alloc | apply Kd.N_drewN | apply Kd.N_drew)); exact HO_8.out) hb); have n2_ := Aside0.mk (below_step (by repeat (first | (with_reducible first | exact HB.out | apply below_alloc | apply pw_below_drewN | apply below_drew1) | exact HB.out)) hb); clear HO_7; clear HO_8; clear HB; have HO_7 := n0_; have HO_8 := n1_; have HB := n2_; clear n0_ n1_ n2_; (try clear hb); (try clear hb2); (try clear hk); (try clear hi)))
                            repeat (go_quiet (first | (go_at_call 25; (with_reducible refine (known_Knows.calls a0 ((rd_T40 l1 x11_2).f0) t120 _ A20.out).mono ?_); rintro e w' ⟨rfl, ⟨nd, rfl⟩⟩; (try first | exact ⟨rfl, _, World.drewN_drewN _ _ _⟩ | exact ⟨rfl, _, Eq.trans (World.drewN_drewN _ _ _) (congrArg (World.drewN _) (Nat.add_assoc _ _ _))⟩)) | (go_at_call 26; (with_reducible refine (polyglotlaw07_in.calls a0 ((rd_T40 l1 x11_2).f0) t121 _ A21.out).mono ?_); rintro e w' ⟨rfl, ⟨nd, rfl⟩⟩; (try first | exact ⟨rfl, _, World.drewN_drewN _ _ _⟩ | exact ⟨rfl, _, Eq.trans (World.drewN_drewN _ _ _) (congrArg (World.drewN _) (Nat.add_assoc _ _ _))⟩)) | (go_at_call 27; (with_reducible refine (known_Name.calls ((rd_T40 l1 x11_2).f0) t122 _ A23.out).mono ?_); rintro e w26 ⟨rfl, hb⟩; have n0_ := Aside0.mk (Kd.N_below (by (with_reducible repeat (first | apply Kd.N_alloc | apply Kd.N_drewN | apply Kd.N_drew)); exact HO_7.out) hb); have n1_ := Aside0.mk (Kd.N_below (by (with_reducible repeat (first | apply Kd.N_alloc | apply Kd.N_drewN | apply Kd.N_drew)); exact HO_8.out) hb); have n2_ := Aside0.mk (below_step (by repeat (first | (with_reducible first | exact HB.out | apply below_alloc | apply pw_below_drewN | apply below_drew1) | exact HB.out)) hb); clear HO_7; clear HO_8; clear HB; have HO_7 := n0_; have HO_8 := n1_; have HB := n2_; clear n0_ n1_ n2_; (try clear hb); (try clear hb2); (try clear hk); (try clear hi))); try go_wp2_with (first | (go_at_call 25; (with_reducible refine (known_Knows.calls a0 ((rd_T40 l1 x11_2).f0) t120 _ A20.out).mono ?_); rintro e w' ⟨rfl, ⟨nd, rfl⟩⟩; (try first | exact ⟨rfl, _, World.drewN_drewN _ _ _⟩ | exact ⟨rfl, _, Eq.trans (World.drewN_drewN _ _ _) (congrArg (World.drewN _) (Nat.add_assoc _ _ _))⟩)) | (go_at_call 26; (with_reducible refine (polyglotlaw07_in.calls a0 ((rd_T40 l1 x11_2).f0) t121 _ A21.out).mono ?_); rintro e w' ⟨rfl, ⟨nd, rfl⟩⟩; (try first | exact ⟨rfl, _, World.drewN_drewN _ _ _⟩ | exact ⟨rfl, _, Eq.trans (World.drewN_drewN _ _ _) (congrArg (World.drewN _) (Nat.add_assoc _ _ _))⟩)) | (go_at_call 27; (with_reducible refine (known_Name.calls ((rd_T40 l1 x11_2).f0) t122 _ A23.out).mono ?_); rintro e w26 ⟨rfl, hb⟩; have n0_ := Aside0.mk (Kd.N_below (by (with_reducible repeat (first | apply Kd.N_alloc | apply Kd.N_drewN | apply Kd.N_drew)); exact HO_7.out) hb); have n1_ := Aside0.mk (Kd.N_below (by (with_reducible repeat (first | apply Kd.N_alloc | apply Kd.N_drewN | apply Kd.N_drew)); exact HO_8.out) hb); have n2_ := Aside0.mk (below_step (by repeat (first | (with_reducible first | exact HB.out | apply below_alloc | apply pw_below_drewN | apply below_drew1) | exact HB.out)) hb); clear HO_7; clear HO_8; clear HB; have HO_7 := n0_; have HO_8 := n1_; have HB := n2_; clear n0_ n1_ n2_; (try clear hb); (try clear hb2); (try clear hk); (try clear hi))))
                            go_meet
                            case rel => exact ⟨_, (!(t122.toList != ([] : List UInt8))), (by first | rfl | (simp; done) | (simp [*]; done) | (cases t122.toList <;> rfl)), H', ⟨by have := HJ3.out; have := HK2.out; first | omega | exact Nat.le_refl _⟩, ⟨by (with_reducible repeat (first | apply Kd.N_alloc | apply Kd.N_drewN | apply Kd.N_drew)); exact HO_7.out⟩, ⟨by (with_reducible repeat (first | apply Kd.N_alloc | apply Kd.N_drewN | apply Kd.N_drew)); exact HO_8.out⟩, ⟨by repeat (first | (with_reducible first | exact HB.out | apply below_alloc | apply pw_below_drewN | apply below_drew1) | exact HB.out)⟩⟩
                        · rw [if_neg c25] at H
                          have c25b0 : decide (((rd_T40 l1 x11_2).f0) ≤ 34) = false := decide_eq_false c25
                          clear c25
                          have H' := Aside0.mk H
                          clear H
                          as_aux_lemma =>
                            go_wp2_with (first | (go_at_call 25; (with_reducible refine (known_Knows.calls a0 ((rd_T40 l1 x11_2).f0) t120 _ A20.out).mono ?_); rintro e w' ⟨rfl, ⟨nd, rfl⟩⟩; (try first | exact ⟨rfl, _, World.drewN_drewN _ _ _⟩ | exact ⟨rfl, _, Eq.trans (World.drewN_drewN _ _ _) (congrArg (World.drewN _) (Nat.add_assoc _ _ _))⟩)) | (go_at_call 26; (with_reducible refine (polyglotlaw07_in.calls a0 ((rd_T40 l1 x11_2).f0) t121 _ A21.out).mono ?_); rintro e w' ⟨rfl, ⟨nd, rfl⟩⟩; (try first | exact ⟨rfl, _, World.drewN_drewN _ _ _⟩ | exact ⟨rfl, _, Eq.trans (World.drewN_drewN _ _ _) (congrArg (World.drewN _) (Nat.add_assoc _ _ _))⟩)) | (go_at_call 27; (with_reducible refine (known_Name.calls ((rd_T40 l1 x11_2).f0) t122 _ A23.out).mono ?_); rintro e w27 ⟨rfl, hb⟩; have n0_ := Aside0.mk (Kd.N_below (by (with_reducible repeat (first | apply Kd.N_alloc | apply Kd.N_drewN | apply Kd.N_drew)); exact HO_7.out) hb); have n1_ := Aside0.mk (Kd.N_below (by (with_reducible repeat (first | apply Kd.N_alloc | apply Kd.N_drewN | apply Kd.N_drew)); exact HO_8.out) hb); have n2_ := Aside0.mk (below_step (by repeat (first | (with_reducible first | exact HB.out | apply below_alloc | apply pw_below_drewN | apply below_drew1) | exact HB.out)) hb); clear HO_7; clear HO_8; clear HB; have HO_7 := n0_; have HO_8 := n1_; have HB := n2_; clear n0_ n1_ n2_; (try clear hb); (try clear hb2); (try clear hk); (try clear hi)))
                            repeat (go_quiet (first | (go_at_call 25; (with_reducible refine (known_Knows.calls a0 ((rd_T40 l1 x11_2).f0) t120 _ A20.out).mono ?_); rintro e w' ⟨rfl, ⟨nd, rfl⟩⟩; (try first | exact ⟨rfl, _, World.drewN_drewN _ _ _⟩ | exact ⟨rfl, _, Eq.trans (World.drewN_drewN _ _ _) (congrArg (World.drewN _) (Nat.add_assoc _ _ _))⟩)) | (go_at_call 26; (with_reducible refine (polyglotlaw07_in.calls a0 ((rd_T40 l1 x11_2).f0) t121 _ A21.out).mono ?_); rintro e w' ⟨rfl, ⟨nd, rfl⟩⟩; (try first | exact ⟨rfl, _, World.drewN_drewN _ _ _⟩ | exact ⟨rfl, _, Eq.trans (World.drewN_drewN _ _ _) (congrArg (World.drewN _) (Nat.add_assoc _ _ _))⟩)) | (go_at_call 27; (with_reducible refine (known_Name.calls ((rd_T40 l1 x11_2).f0) t122 _ A23.out).mono ?_); rintro e w27 ⟨rfl, hb⟩; have n0_ := Aside0.mk (Kd.N_below (by (with_reducible repeat (first | apply Kd.N_alloc | apply Kd.N_drewN | apply Kd.N_drew)); exact HO_7.out) hb); have n1_ := Aside0.mk (Kd.N_below (by (with_reducible repeat (first | apply Kd.N_alloc | apply Kd.N_drewN | apply Kd.N_drew)); exact HO_8.out) hb); have n2_ := Aside0.mk (below_step (by repeat (first | (with_reducible first | exact HB.out | apply below_alloc | apply pw_below_drewN | apply below_drew1) | exact HB.out)) hb); clear HO_7; clear HO_8; clear HB; have HO_7 := n0_; have HO_8 := n1_; have HB := n2_; clear n0_ n1_ n2_; (try clear hb); (try clear hb2); (try clear hk); (try clear hi))); try go_wp2_with (first | (go_at_call 25; (with_reducible refine (known_Knows.calls a0 ((rd_T40 l1 x11_2).f0) t120 _ A20.out).mono ?_); rintro e w' ⟨rfl, ⟨nd, rfl⟩⟩; (try first | exact ⟨rfl, _, World.drewN_drewN _ _ _⟩ | exact ⟨rfl, _, Eq.trans (World.drewN_drewN _ _ _) (congrArg (World.drewN _) (Nat.add_assoc _ _ _))⟩)) | (go_at_call 26; (with_reducible refine (polyglotlaw07_in.calls a0 ((rd_T40 l1 x11_2).f0) t121 _ A21.out).mono ?_); rintro e w' ⟨rfl, ⟨nd, rfl⟩⟩; (try first | exact ⟨rfl, _, World.drewN_drewN _ _ _⟩ | exact ⟨rfl, _, Eq.trans (World.drewN_drewN _ _ _) (congrArg (World.drewN _) (Nat.add_assoc _ _ _))⟩)) | (go_at_call 27; (with_reducible refine (known_Name.calls ((rd_T40 l1 x11_2).f0) t122 _ A23.out).mono ?_); rintro e w27 ⟨rfl, hb⟩; have n0_ := Aside0.mk (Kd.N_below (by (with_reducible repeat (first | apply Kd.N_alloc | apply Kd.N_drewN | apply Kd.N_drew)); exact HO_7.out) hb); have n1_ := Aside0.mk (Kd.N_below (by (with_reducible repeat (first | apply Kd.N_alloc | apply Kd.N_drewN | apply Kd.N_drew)); exact HO_8.out) hb); have n2_ := Aside0.mk (below_step (by repeat (first | (with_reducible first | exact HB.out | apply below_alloc | apply pw_below_drewN | apply below_drew1) | exact HB.out)) hb); clear HO_7; clear HO_8; clear HB; have HO_7 := n0_; have HO_8 := n1_; have HB := n2_; clear n0_ n1_ n2_; (try clear hb); (try clear hb2); (try clear hk); (try clear hi))))
                            go_meet
                            case rel => exact ⟨_, ((t122.toList != ([] : List UInt8))), (by first | rfl | (simp; done) | (simp [*]; done) | (cases t122.toList <;> rfl)), H', ⟨by have := HJ3.out; have := HK2.out; first | omega | exact Nat.le_refl _⟩, ⟨by (with_reducible repeat (first | apply Kd.N_alloc | apply Kd.N_drewN | apply Kd.N_drew)); exact HO_7.out⟩, ⟨by (with_reducible repeat (first | apply Kd.N_alloc | apply Kd.N_drewN | apply Kd.N_drew)); exact HO_8.out⟩, ⟨by repeat (first | (with_reducible first | exact HB.out | apply below_alloc | apply pw_below_drewN | apply below_drew1) | exact HB.out)⟩⟩
                      · rw [if_neg c24] at H
                        have c24b0 : decide (32 ≤ ((rd_T40 l1 x11_2).f0)) = false := decide_eq_false c24
                        clear c24
                        have H' := Aside0.mk H
                        clear H
                        as_aux_lemma =>
                          go_wp2_with (first | (go_at_call 25; (with_reducible refine (known_Knows.calls a0 ((rd_T40 l1 x11_2).f0) t120 _ A20.out).mono ?_); rintro e w' ⟨rfl, ⟨nd, rfl⟩⟩; (try first | exact ⟨rfl, _, World.drewN_drewN _ _ _⟩ | exact ⟨rfl, _, Eq.trans (World.drewN_drewN _ _ _) (congrArg (World.drewN _) (Nat.add_assoc _ _ _))⟩)) | (go_at_call 26; (with_reducible refine (polyglotlaw07_in.calls a0 ((rd_T40 l1 x11_2).f0) t121 _ A21.out).mono ?_); rintro e w' ⟨rfl, ⟨nd, rfl⟩⟩; (try first | exact ⟨rfl, _, World.drewN_drewN _ _ _⟩ | exact ⟨rfl, _, Eq.trans (World.drewN_drewN _ _ _) (congrArg (World.drewN _) (Nat.add_assoc _ _ _))⟩)) | (go_at_call 27; (with_reducible refine (known_Name.calls ((rd_T40 l1 x11_2).f0) t122 _ A23.out).mono ?_); rintro e w28 ⟨rfl, hb⟩; have n0_ := Aside0.mk (Kd.N_below (by (with_reducible repeat (first | apply Kd.N_alloc | apply Kd.N_drewN | apply Kd.N_drew)); exact HO_7.out) hb); have n1_ := Aside0.mk (Kd.N_below (by (with_reducible repeat (first | apply Kd.N_alloc | apply Kd.N_drewN | apply Kd.N_drew)); exact HO_8.out) hb); have n2_ := Aside0.mk (below_step (by repeat (first | (with_reducible first | exact HB.out | apply below_alloc | apply pw_below_drewN | apply below_drew1) | exact HB.out)) hb); clear HO_7; clear HO_8; clear HB; have HO_7 := n0_; have HO_8 := n1_; have HB := n2_; clear n0_ n1_ n2_; (try clear hb); (try clear hb2); (try clear hk); (try clear hi)))
                          repeat (go_quiet (first | (go_at_call 25; (with_reducible refine (known_Knows.calls a0 ((rd_T40 l1 x11_2).f0) t120 _ A20.out).mono ?_); rintro e w' ⟨rfl, ⟨nd, rfl⟩⟩; (try first | exact ⟨rfl, _, World.drewN_drewN _ _ _⟩ | exact ⟨rfl, _, Eq.trans (World.drewN_drewN _ _ _) (congrArg (World.drewN _) (Nat.add_assoc _ _ _))⟩)) | (go_at_call 26; (with_reducible refine (polyglotlaw07_in.calls a0 ((rd_T40 l1 x11_2).f0) t121 _ A21.out).mono ?_); rintro e w' ⟨rfl, ⟨nd, rfl⟩⟩; (try first | exact ⟨rfl, _, World.drewN_drewN _ _ _⟩ | exact ⟨rfl, _, Eq.trans (World.drewN_drewN _ _ _) (congrArg (World.drewN _) (Nat.add_assoc _ _ _))⟩)) | (go_at_call 27; (with_reducible refine (known_Name.calls ((rd_T40 l1 x11_2).f0) t122 _ A23.out).mono ?_); rintro e w28 ⟨rfl, hb⟩; have n0_ := Aside0.mk (Kd.N_below (by (with_reducible repeat (first | apply Kd.N_alloc | apply Kd.N_drewN | apply Kd.N_drew)); exact HO_7.out) hb); have n1_ := Aside0.mk (Kd.N_below (by (with_reducible repeat (first | apply Kd.N_alloc | apply Kd.N_drewN | apply Kd.N_drew)); exact HO_8.out) hb); have n2_ := Aside0.mk (below_step (by repeat (first | (with_reducible first | exact HB.out | apply below_alloc | apply pw_below_drewN | apply below_drew1) | exact HB.out)) hb); clear HO_7; clear HO_8; clear HB; have HO_7 := n0_; have HO_8 := n1_; have HB := n2_; clear n0_ n1_ n2_; (try clear hb); (try clear hb2); (try clear hk); (try clear hi))); try go_wp2_with (first | (go_at_call 25; (with_reducible refine (known_Knows.calls a0 ((rd_T40 l1 x11_2).f0) t120 _ A20.out).mono ?_); rintro e w' ⟨rfl, ⟨nd, rfl⟩⟩; (try first | exact ⟨rfl, _, World.drewN_drewN _ _ _⟩ | exact ⟨rfl, _, Eq.trans (World.drewN_drewN _ _ _) (congrArg (World.drewN _) (Nat.add_assoc _ _ _))⟩)) | (go_at_call 26; (with_reducible refine (polyglotlaw07_in.calls a0 ((rd_T40 l1 x11_2).f0) t121 _ A21.out).mono ?_); rintro e w' ⟨rfl, ⟨nd, rfl⟩⟩; (try first | exact ⟨rfl, _, World.drewN_drewN _ _ _⟩ | exact ⟨rfl, _, Eq.trans (World.drewN_drewN _ _ _) (congrArg (World.drewN _) (Nat.add_assoc _ _ _))⟩)) | (go_at_call 27; (with_reducible refine (known_Name.calls ((rd_T40 l1 x11_2).f0) t122 _ A23.out).mono ?_); rintro e w28 ⟨rfl, hb⟩; have n0_ := Aside0.mk (Kd.N_below (by (with_reducible repeat (first | apply Kd.N_alloc | apply Kd.N_drewN | apply Kd.N_drew)); exact HO_7.out) hb); have n1_ := Aside0.mk (Kd.N_below (by (with_reducible repeat (first | apply Kd.N_alloc | apply Kd.N_drewN | apply Kd.N_drew)); exact HO_8.out) hb); have n2_ := Aside0.mk (below_step (by repeat (first | (with_reducible first | exact HB.out | apply below_alloc | apply pw_below_drewN | apply below_drew1) | exact HB.out)) hb); clear HO_7; clear HO_8; clear HB; have HO_7 := n0_; have HO_8 := n1_; have HB := n2_; clear n0_ n1_ n2_; (try clear hb); (try clear hb2); (try clear hk); (try clear hi))))
                          go_meet
                          case rel => exact ⟨_, (((t122.toList != ([] : List UInt8)) != false)), (by first | rfl | (simp; done) | (simp [*]; done) | (cases t122.toList <;> rfl)), H', ⟨by have := HJ3.out; have := HK2.out; first | omega | exact Nat.le_refl _⟩, ⟨by (with_reducible repeat (first | apply Kd.N_alloc | apply Kd.N_drewN | apply Kd.N_drew)); exact HO_7.out⟩, ⟨by (with_reducible repeat (first | apply Kd.N_alloc | apply Kd.N_drewN | apply Kd.N_drew)); exact HO_8.out⟩, ⟨by repeat (first | (with_reducible first | exact HB.out | apply below_alloc | apply pw_below_drewN | apply below_drew1) | exact HB.out)⟩⟩
                  case rest =>
                    clear HC19
                    try clear c1
                    try clear p1
                    try clear q1
                    try clear hx1
                    try clear c2
                    try clear p2
                    try clear c4
                    try clear c6
                    try clear p6
                    try clear c7
                    try clear c11
                    try clear p11
                    try clear q11
                    try clear hx11
                    try clear c12
                    try clear c12b0
                    try clear c12b1
                    try clear c17
                    try clear c17b0
                    try clear c18
                    try clear c18b0
                    try clear c22
                    try clear c22b0
                    try clear c22b1
                    try clear c22b2
                    try clear c24
                    try clear c24b0
                    try clear c25
                    try clear c25b0
                    try clear hx119_0
                    try clear hx119_1
                    try clear p119
                    try clear p2
                    try clear p6
                    try clear q119
                    obtain ⟨kq, x67_18, rfl, HA, HJ18, HO_7, HO_8, HB⟩ := hcut
                    cases kq with
                    | zero => exact absurd HA.out (by simp [polyglotlaw07_KnownSplits.j2])
                    | succ kj18 =>
                      have H := HA.out
                      clear HA
                      simp only [polyglotlaw07_KnownSplits.j2] at H
                      by_cases c29 : x67_18 = true
                      · subst c29
                        have H1 : (some false) = some r := by rw [if_pos rfl] at H; exact H
                        clear H
                        have H := H1
                        clear H1
                        obtain rfl := Option.some.inj H
                        as_aux_lemma =>
                          go_wp2
                          repeat (go_quiet (fail); try go_wp2)
                          go_ret
                          exact ⟨by first | rfl | (simp [errW_none, errW_some] <;> rfl) | (simp [*, errW_none, errW_some] <;> rfl), by repeat (first | (with_reducible first | exact HB.out | apply below_alloc | apply pw_below_drewN | apply below_drew1) | exact HB.out)⟩
                      · replace c29 := Bool.eq_false_iff.mpr c29
                        subst c29
                        have H1 : ((polyglotlaw07_in.f a0 ((rd_T40 l1 x11_2).f0)).bind fun t123 => (if t123 = true then (if x9_2 ≥ (t113.length : Int) then (some false) else (if 0 ≤ x9_2 then (if x9_2 < (t113.length : Int) then (if ((rd_T40 t113 x9_2).f0) = ((rd_T40 l1 x11_2).f0) then (if 0 ≤ x11_2 then (if x11_2 < (l1.length : Int) then (if (strOfNums ((rd_T40 t113 x9_2).f1)).toList = (strOfNums ((rd_T40 l1 x11_2).f1)).toList then (polyglotlaw07_KnownSplits.l0 kj18 a0 l1 a2 t113 t116 (wrap64 (x9_2 + 1)) x10_2 (wrap64 (x11_2 + 1))) else (some false)) else (none)) else (none)) else (some false)) else (none)) else (none))) else (if x10_2 ≥ (t116.length : Int) then (some false) else (if 0 ≤ x10_2 then (if x10_2 < (t116.length : Int) then (if ((rd_T40 t116 x10_2).f0) = ((rd_T40 l1 x11_2).f0) then (if 0 ≤ x11_2 then (if x11_2 < (l1.length : Int) then (if (strOfNums ((rd_T40 t116 x10_2).f1)).toList = (strOfNums ((rd_T40 l1 x11_2).f1)).toList then (polyglotlaw07_KnownSplits.l0 kj18 a0 l1 a2 t113 t116 x9_2 (wrap64 (x10_2 + 1)) (wrap64 (x11_2 + 1))) else (some false)) else (none)) else (none)) else (some false)) else (none)) else (none))))) = some r := by rw [if_neg (show ¬ (false = true) by decide)] at H; exact H
                        clear H
                        have H := H1
                        clear H1
                        replace H := Option.bind_eq_some_iff.mp H
                        obtain ⟨t123, A300, H⟩ := H
                        replace H : (if t123 = true then (if x9_2 ≥ (t113.length : Int) then (some false) else (if 0 ≤ x9_2 then (if x9_2 < (t113.length : Int) then (if ((rd_T40 t113 x9_2).f0) = ((rd_T40 l1 x11_2).f0) then (if 0 ≤ x11_2 then (if x11_2 < (l1.length : Int) then (if (strOfNums ((rd_T40 t113 x9_2).f1)).toList = (strOfNums ((rd_T40 l1 x11_2).f1)).toList then (polyglotlaw07_KnownSplits.l0 kj18 a0 l1 a2 t113 t116 (wrap64 (x9_2 + 1)) x10_2 (wrap64 (x11_2 + 1))) else (some false)) else (none)) else (none)) else (some false)) else (none)) else (none))) else (if x10_2 ≥ (t116.length : Int) then (some false) else (if 0 ≤ x10_2 then (if x10_2 < (t116.length : Int) then (if ((rd_T40 t116 x10_2).f0) = ((rd_T40 l1 x11_2).f0) then (if 0 ≤ x11_2 then (if x11_2 < (l1.length : Int) then (if (strOfNums ((rd_T40 t116 x10_2).f1)).toList = (strOfNums ((rd_T40 l1 x11_2).f1)).toList then (polyglotlaw07_KnownSplits.l0 kj18 a0 l1 a2 t113 t116 x9_2 (wrap64 (x10_2 + 1)) (wrap64 (x11_2 + 1))) else (some false)) else (none)) else (none)) else (some false)) else (none)) else (none)))) = some r := H
                        have A30 := Aside0.mk A300
                        clear A300
                        by_cases c31 : t123 = true
                        · subst c31
                          have H1 : (if x9_2 ≥ (t113.length : Int) then (some false) else (if 0 ≤ x9_2 then (if x9_2 < (t113.length : Int) then (if ((rd_T40 t113 x9_2).f0) = ((rd_T40 l1 x11_2).f0) then (if 0 ≤ x11_2 then (if x11_2 < (l1.length : Int) then (if (strOfNums ((rd_T40 t113 x9_2).f1)).toList = (strOfNums ((rd_T40 l1 x11_2).f1)).toList then (polyglotlaw07_KnownSplits.l0 kj18 a0 l1 a2 t113 t116 (wrap64 (x9_2 + 1)) x10_2 (wrap64 (x11_2 + 1))) else (some false)) else (none)) else (none)) else (some false)) else (none)) else (none))) = some r := by rw [if_pos rfl] at H; exact H
                          clear H
                          have H := H1
                          clear H1
                          by_cases c32 : x9_2 ≥ (t113.length : Int)
                          · rw [if_pos c32] at H
                            have c32b0 : decide ((t113.length : Int) ≤ x9_2) = true := decide_eq_true c32
                            clear c32
                            obtain rfl := Option.some.inj H
                            as_aux_lemma =>
                              go_wp2_with (first | (go_at_call 26; (with_reducible refine (polyglotlaw07_in.calls a0 ((rd_T40 l1 x11_2).f0) true _ A30.out).mono ?_); rintro e w' ⟨rfl, ⟨nd, rfl⟩⟩; (try first | exact ⟨rfl, _, World.drewN_drewN _ _ _⟩ | exact ⟨rfl, _, Eq.trans (World.drewN_drewN _ _ _) (congrArg (World.drewN _) (Nat.add_assoc _ _ _))⟩)))
                              repeat (go_quiet (first | (go_at_call 26; (with_reducible refine (polyglotlaw07_in.calls a0 ((rd_T40 l1 x11_2).f0) true _ A30.out).mono ?_); rintro e w' ⟨rfl, ⟨nd, rfl⟩⟩; (try first | exact ⟨rfl, _, World.drewN_drewN _ _ _⟩ | exact ⟨rfl, _, Eq.trans (World.drewN_drewN _ _ _) (congrArg (World.drewN _) (Nat.add_assoc _ _ _))⟩))); try go_wp2_with (first | (go_at_call 26; (with_reducible refine (polyglotlaw07_in.calls a0 ((rd_T40 l1 x11_2).f0) true _ A30.out).mono ?_); rintro e w' ⟨rfl, ⟨nd, rfl⟩⟩; (try first | exact ⟨rfl, _, World.drewN_drewN _ _ _⟩ | exact ⟨rfl, _, Eq.trans (World.drewN_drewN _ _ _) (congrArg (World.drewN _) (Nat.add_assoc _ _ _))⟩))))
                              go_ret
                              exact ⟨by first | rfl | (simp [errW_none, errW_some] <;> rfl) | (simp [*, errW_none, errW_some] <;> rfl), by repeat (first | (with_reducible first | exact HB.out | apply below_alloc | apply pw_below_drewN | apply below_drew1) | exact HB.out)⟩
                          · rw [if_neg c32] at H
                            have c32b0 : decide ((t113.length : Int) ≤ x9_2) = false := decide_eq_false c32
                            clear c32
                            by_cases c33 : 0 ≤ x9_2
                            · rw [if_pos c33] at H
                              have c33b0 : decide (0 ≤ x9_2) = true := decide_eq_true c33
                              clear c33
                              by_cases c34 : x9_2 < (t113.length : Int)
                              · rw [if_pos c34] at H
                                have c34b0 : decide (x9_2 < (t113.length : Int)) = true := decide_eq_true c34
                                clear c34
                                by_cases c35 : ((rd_T40 t113 x9_2).f0) = ((rd_T40 l1 x11_2).f0)
                                · rw [if_pos c35] at H
                                  have c35b0 : (((rd_T40 t113 x9_2).f0) == ((rd_T40 l1 x11_2).f0)) = true := beq_iff_eq.mpr c35
                                  have c35b1 : (((rd_T40 t113 x9_2).f0) != ((rd_T40 l1 x11_2).f0)) = false := bne_eq_false_iff_eq.mpr c35
                                  clear c35
                                  by_cases c36 : 0 ≤ x11_2
                                  · rw [if_pos c36] at H
                                    have c36b0 : decide (0 ≤ x11_2) = true := decide_eq_true c36
                                    clear c36
                                    by_cases c37 : x11_2 < (l1.length : Int)
                                    · rw [if_pos c37] at H
                                      have c37b0 : decide (x11_2 < (l1.length : Int)) = true := decide_eq_true c37
                                      clear c37
                                      by_cases c38 : (strOfNums ((rd_T40 t113 x9_2).f1)).toList = (strOfNums ((rd_T40 l1 x11_2).f1)).toList
                                      · rw [if_pos c38] at H
                                        have c38b0 : ((strOfNums ((rd_T40 t113 x9_2).f1)).toList == (strOfNums ((rd_T40 l1 x11_2).f1)).toList) = true := beq_iff_eq.mpr c38
                                        have c38b1 : ((strOfNums ((rd_T40 t113 x9_2).f1)).toList != (strOfNums ((rd_T40 l1 x11_2).f1)).toList) = false := bne_eq_false_iff_eq.mpr c38
                                        clear c38
                                        have H' := Aside0.mk H
                                        clear H
                                        as_aux_lemma =>
                                          go_wp2_with (first | (go_at_call 26; (with_reducible refine (polyglotlaw07_in.calls a0 ((rd_T40 l1 x11_2).f0) true _ A30.out).mono ?_); rintro e w' ⟨rfl, ⟨nd, rfl⟩⟩; (try first | exact ⟨rfl, _, World.drewN_drewN _ _ _⟩ | exact ⟨rfl, _, Eq.trans (World.drewN_drewN _ _ _) (congrArg (World.drewN _) (Nat.add_assoc _ _ _))⟩); have p124 : 0 ≤ (x9_2 : Int) := of_decide_eq_true (by first | (with_reducible assumption) | assumption); have q124 : x9_2 < (t113.length : Int) := of_decide_eq_true (by first | (with_reducible assumption) | assumption); obtain ⟨ad124, A124_1, c124_1, e124, hx124_0, hx124_1, hl124_1, hi124_1⟩ := at_T40 (Kd.N_reads' HO_7.out).2.2 x9_2 p124 q124; cases e124; obtain ⟨ce124, hce124, hMe124, hcc124⟩ := Kd.N_get HO_7.out z40 x9_2 p124 (by first | exact q124 | exact of_decide_eq_true (by first | (with_reducible assumption) | assumption) | (have e_ := (Kd.N_reads' HO_7.out).1; omega)); obtain ⟨ua124_1, uc124_1, rfl, ul124_1, ge124_1⟩ := k40_openF hMe124; have hv124_1 := hcc124 1 _ rfl; rw [add_field _ _ 1 (by omega)] at hv124_1; replace hv124_1 := Option.some.inj (hv124_1.symm.trans hx124_1); injection hv124_1 with hva_ hvn_ hvc_; rw [hva_] at ge124_1; rw [hvc_] at ul124_1; have HL124_1 := Aside0.mk (show Kd.V (Kd.int .u8) 5 _ w.heap.size _ _ ((rd_T40 t113 x9_2).f1) from Kd.V_mk ul124_1 ge124_1); clear hva_ hvn_ hvc_ ge124_1 ul124_1; clear hcc124 hce124; have HR124_1 := Aside0.mk hi124_1; have HC124_1 := Aside0.mk hl124_1; clear hi124_1 hl124_1; replace p124 := eq_true p124; replace q124 := eq_true q124; have p125 : 0 ≤ (x9_2 : Int) := of_decide_eq_true (by first | (with_reducible assumption) | assumption); have q125 : x9_2 < (t113.length : Int) := of_decide_eq_true (by first | (with_reducible assumption) | assumption); obtain ⟨ad125, A125_1, c125_1, e125, hx125_0, hx125_1, hl125_1, hi125_1⟩ := at_T40 (Kd.N_reads' HO_7.out).2.2 x9_2 p125 q125; obtain rfl : ad124 = ad125 := (by injection e125); obtain ⟨ce125, hce125, hMe125, hcc125⟩ := Kd.N_get HO_7.out z40 x9_2 p125 (by first | exact q125 | exact of_decide_eq_true (by first | (with_reducible assumption) | assumption) | (have e_ := (Kd.N_reads' HO_7.out).1; omega)); obtain ⟨ua125_1, uc125_1, rfl, ul125_1, ge125_1⟩ := k40_openF hMe125; have hv125_1 := hcc125 1 _ rfl; rw [add_field _ _ 1 (by omega)] at hv125_1; replace hv125_1 := Option.some.inj (hv125_1.symm.trans hx125_1); injection hv125_1 with hva_ hvn_ hvc_; rw [hva_] at ge125_1; rw [hvc_] at ul125_1; have HL125_1 := Aside0.mk (show Kd.V (Kd.int .u8) 5 _ w.heap.size _ _ ((rd_T40 t113 x9_2).f1) from Kd.V_mk ul125_1 ge125_1); clear hva_ hvn_ hvc_ ge125_1 ul125_1; clear hcc125 hce125; have HR125_1 := Aside0.mk hi125_1; have HC125_1 := Aside0.mk hl125_1; clear hi125_1 hl125_1; replace p125 := eq_true p125; replace q125 := eq_true q125; have ea_ := Option.some.inj (hx124_1.symm.trans hx125_1); injection ea_ with ea_ en_ ec_; subst ea_; subst ec_; clear en_; have hcv39 := Kd.C_string (P := Try.prog) (A := A124_1) (c := c124_1) Try.underlying22 Try.underlying5 Try.underlying9 (by repeat (first | (with_reducible exact HR125_1.out) | (with_reducible refine Kd.C_alloc ?_ _) | (with_reducible refine Kd.C_drewN ?_ _) | (with_reducible refine Kd.C_drew ?_) | exact HR125_1.out)); (try have hcv39d := fun m_ => Kd.C_string (P := Try.prog) (A := A124_1) (c := c124_1) Try.underlying22 Try.underlying5 Try.underlying9 (Kd.C_drewN HR125_1.out m_)); have p126 : 0 ≤ (x11_2 : Int) := of_decide_eq_true (by first | (with_reducible assumption) | assumption); have q126 : x11_2 < (l1.length : Int) := of_decide_eq_true (by first | (with_reducible assumption) | assumption); obtain ⟨ad126, A126_1, c126_1, e126, hx126_0, hx126_1, hl126_1, hi126_1⟩ := at_T40 HR1.out x11_2 p126 q126; obtain rfl : ad119 = ad126 := (by injection e126); replace hx126_0 := (HB.out.cell (World.block_lt_of_cell? w _ hx126_0)).trans hx126_0; replace hx126_1 := (HB.out.cell (World.block_lt_of_cell? w _ hx126_1)).trans hx126_1; have HR126_1 := Aside0.mk hi126_1; have HC126_1 := Aside0.mk hl126_1; clear hi126_1 hl126_1; replace p126 := eq_true p126; replace q126 := eq_true q126; have hcv40 := Kd.C_string (P := Try.prog) (A := A126_1) (c := c126_1) Try.underlying22 Try.underlying5 Try.underlying9 (Kd.C_below HR126_1.out HB.out); (try have hcv40d := fun m_ => Kd.C_string (P := Try.prog) (A := A126_1) (c := c126_1) Try.underlying22 Try.underlying5 Try.underlying9 (Kd.C_drewN (Kd.C_below HR126_1.out HB.out) m_))))
                                          repeat (go_quiet (first | (go_at_call 26; (with_reducible refine (polyglotlaw07_in.calls a0 ((rd_T40 l1 x11_2).f0) true _ A30.out).mono ?_); rintro e w' ⟨rfl, ⟨nd, rfl⟩⟩; (try first | exact ⟨rfl, _, World.drewN_drewN _ _ _⟩ | exact ⟨rfl, _, Eq.trans (World.drewN_drewN _ _ _) (congrArg (World.drewN _) (Nat.add_assoc _ _ _))⟩); have p124 : 0 ≤ (x9_2 : Int) := of_decide_eq_true (by first | (with_reducible assumption) | assumption); have q124 : x9_2 < (t113.length : Int) := of_decide_eq_true (by first | (with_reducible assumption) | assumption); obtain ⟨ad124, A124_1, c124_1, e124, hx124_0, hx124_1, hl124_1, hi124_1⟩ := at_T40 (Kd.N_reads' HO_7.out).2.2 x9_2 p124 q124; cases e124; obtain ⟨ce124, hce124, hMe124, hcc124⟩ := Kd.N_get HO_7.out z40 x9_2 p124 (by first | exact q124 | exact of_decide_eq_true (by first | (with_reducible assumption) | assumption) | (have e_ := (Kd.N_reads' HO_7.out).1; omega)); obtain ⟨ua124_1, uc124_1, rfl, ul124_1, ge124_1⟩ := k40_openF hMe124; have hv124_1 := hcc124 1 _ rfl; rw [add_field _ _ 1 (by omega)] at hv124_1; replace hv124_1 := Option.some.inj (hv124_1.symm.trans hx124_1); injection hv124_1 with hva_ hvn_ hvc_; rw [hva_] at ge124_1; rw [hvc_] at ul124_1; have HL124_1 := Aside0.mk (show Kd.V (Kd.int .u8) 5 _ w.heap.size _ _ ((rd_T40 t113 x9_2).f1) from Kd.V_mk ul124_1 ge124_1); clear hva_ hvn_ hvc_ ge124_1 ul124_1; clear hcc124 hce124; have HR124_1 := Aside0.mk hi124_1; have HC124_1 := Aside0.mk hl124_1; clear hi124_1 hl124_1; replace p124 := eq_true p124; replace q124 := eq_true q124; have p125 : 0 ≤ (x9_2 : Int) := of_decide_eq_true (by first | (with_reducible assumption) | assumption); have q125 : x9_2 < (t113.length : Int) := of_decide_eq_true (by first | (with_reducible assumption) | assumption); obtain ⟨ad125, A125_1, c125_1, e125, hx125_0, hx125_1, hl125_1, hi125_1⟩ := at_T40 (Kd.N_reads' HO_7.out).2.2 x9_2 p125 q125; obtain rfl : ad124 = ad125 := (by injection e125); obtain ⟨ce125, hce125, hMe125, hcc125⟩ := Kd.N_get HO_7.out z40 x9_2 p125 (by first | exact q125 | exact of_decide_eq_true (by first | (with_reducible assumption) | assumption) | (have e_ := (Kd.N_reads' HO_7.out).1; omega)); obtain ⟨ua125_1, uc125_1, rfl, ul125_1, ge125_1⟩ := k40_openF hMe125; have hv125_1 := hcc125 1 _ rfl; rw [add_field _ _ 1 (by omega)] at hv125_1; replace hv125_1 := Option.some.inj (hv125_1.symm.trans hx125_1); injection hv125_1 with hva_ hvn_ hvc_; rw [hva_] at ge125_1; rw [hvc_] at ul125_1; have HL125_1 := Aside0.mk (show Kd.V (Kd.int .u8) 5 _ w.heap.size _ _ ((rd_T40 t113 x9_2).f1) from Kd.V_mk ul125_1 ge125_1); clear hva_ hvn_ hvc_ ge125_1 ul125_1; clear hcc125 hce125; have HR125_1 := Aside0.mk hi125_1; have HC125_1 := Aside0.mk hl125_1; clear hi125_1 hl125_1; replace p125 := eq_true p125; replace q125 := eq_true q125; have ea_ := Option.some.inj (hx124_1.symm.trans hx125_1); injection ea_ with ea_ en_ ec_; subst ea_; subst ec_; clear en_; have hcv39 := Kd.C_string (P := Try.prog) (A := A124_1) (c := c124_1) Try.underlying22 Try.underlying5 Try.underlying9 (by repeat (first | (with_reducible exact HR125_1.out) | (with_reducible refine Kd.C_alloc ?_ _) | (with_reducible refine Kd.C_drewN ?_ _) | (with_reducible refine Kd.C_drew ?_) | exact HR125_1.out)); (try have hcv39d := fun m_ => Kd.C_string (P := Try.prog) (A := A124_1) (c := c124_1) Try.underlying22 Try.underlying5 Try.underlying9 (Kd.C_drewN HR125_1.out m_)); have p126 : 0 ≤ (x11_2 : Int) := of_decide_eq_true (by first | (with_reducible assumption) | assumption); have q126 : x11_2 < (l1.length : Int) := of_decide_eq_true (by first | (with_reducible assumption) | assumption); obtain ⟨ad126, A126_1, c126_1, e126, hx126_0, hx126_1, hl126_1, hi126_1⟩ := at_T40 HR1.out x11_2 p126 q126; obtain rfl : ad119 = ad126 := (by injection e126); replace hx126_0 := (HB.out.cell (World.block_lt_of_cell? w _ hx126_0)).trans hx126_0; replace hx126_1 := (HB.out.cell (World.block_lt_of_cell? w _ hx126_1)).trans hx126_1; have HR126_1 := Aside0.mk hi126_1; have HC126_1 := Aside0.mk hl126_1; clear hi126_1 hl126_1; replace p126 := eq_true p126; replace q126 := eq_true q126; have hcv40 := Kd.C_string (P := Try.prog) (A := A126_1) (c := c126_1) Try.underlying22 Try.underlying5 Try.underlying9 (Kd.C_below HR126_1.out HB.out); (try have hcv40d := fun m_ => Kd.C_string (P := Try.prog) (A := A126_1) (c := c126_1) Try.underlying22 Try.underlying5 Try.underlying9 (Kd.C_drewN (Kd.C_below HR126_1.out HB.out) m_)))); try go_wp2_with (first | (go_at_call 26; (with_reducible refine (polyglotlaw07_in.calls a0 ((rd_T40 l1 x11_2).f0) true _ A30.out).mono ?_); rintro e w' ⟨rfl, ⟨nd, rfl⟩⟩; (try first | exact ⟨rfl, _, World.drewN_drewN _ _ _⟩ | exact ⟨rfl, _, Eq.trans (World.drewN_drewN _ _ _) (congrArg (World.drewN _) (Nat.add_assoc _ _ _))⟩); have p124 : 0 ≤ (x9_2 : Int) := of_decide_eq_true (by first | (with_reducible assumption) | assumption); have q124 : x9_2 < (t113.length : Int) := of_decide_eq_true (by first | (with_reducible assumption) | assumption); obtain ⟨ad124, A124_1, c124_1, e124, hx124_0, hx124_1, hl124_1, hi124_1⟩ := at_T40 (Kd.N_reads' HO_7.out).2.2 x9_2 p124 q124; cases e124; obtain ⟨ce124, hce124, hMe124, hcc124⟩ := Kd.N_get HO_7.out z40 x9_2 p124 (by first | exact q124 | exact of_decide_eq_true (by first | (with_reducible assumption) | assumption) | (have e_ := (Kd.N_reads' HO_7.out).1; omega)); obtain ⟨ua124_1, uc124_1, rfl, ul124_1, ge124_1⟩ := k40_openF hMe124; have hv124_1 := hcc124 1 _ rfl; rw [add_field _ _ 1 (by omega)] at hv124_1; replace hv124_1 := Option.some.inj (hv124_1.symm.trans hx124_1); injection hv124_1 with hva_ hvn_ hvc_; rw [hva_] at ge124_1; rw [hvc_] at ul124_1; have HL124_1 := Aside0.mk (show Kd.V (Kd.int .u8) 5 _ w.heap.size _ _ ((rd_T40 t113 x9_2).f1) from Kd.V_mk ul124_1 ge124_1); clear hva_ hvn_ hvc_ ge124_1 ul124_1; clear hcc124 hce124; have HR124_1 := Aside0.mk hi124_1; have HC124_1 := Aside0.mk hl124_1; clear hi124_1 hl124_1; replace p124 := eq_true p124; replace q124 := eq_true q124; have p125 : 0 ≤ (x9_2 : Int) := of_decide_eq_true (by first | (with_reducible assumption) | assumption); have q125 : x9_2 < (t113.length : Int) := of_decide_eq_true (by first | (with_reducible assumption) | assumption); obtain ⟨ad125, A125_1, c125_1, e125, hx125_0, hx125_1, hl125_1, hi125_1⟩ := at_T40 (Kd.N_reads' HO_7.out).2.2 x9_2 p125 q125; obtain rfl : ad124 = ad125 := (by injection e125); obtain ⟨ce125, hce125, hMe125, hcc125⟩ := Kd.N_get HO_7.out z40 x9_2 p125 (by first | exact q125 | exact of_decide_eq_true (by first | (with_reducible assumption) | assumption) | (have e_ := (Kd.N_reads' HO_7.out).1; omega)); obtain ⟨ua125_1, uc125_1, rfl, ul125_1, ge125_1⟩ := k40_openF hMe125; have hv125_1 := hcc125 1 _ rfl; rw [add_field _ _ 1 (by omega)] at hv125_1; replace hv125_1 := Option.some.inj (hv125_1.symm.trans hx125_1); injection hv125_1 with hva_ hvn_ hvc_; rw [hva_] at ge125_1; rw [hvc_] at ul125_1; have HL125_1 := Aside0.mk (show Kd.V (Kd.int .u8) 5 _ w.heap.size _ _ ((rd_T40 t113 x9_2).f1) from Kd.V_mk ul125_1 ge125_1); clear hva_ hvn_ hvc_ ge125_1 ul125_1; clear hcc125 hce125; have HR125_1 := Aside0.mk hi125_1; have HC125_1 := Aside0.mk hl125_1; clear hi125_1 hl125_1; replace p125 := eq_true p125; replace q125 := eq_true q125; have ea_ := Option.some.inj (hx124_1.symm.trans hx125_1); injection ea_ with ea_ en_ ec_; subst ea_; subst ec_; clear en_; have hcv39 := Kd.C_string (P := Try.prog) (A := A124_1) (c := c124_1) Try.underlying22 Try.underlying5 Try.underlying9 (by repeat (first | (with_reducible exact HR125_1.out) | (with_reducible refine Kd.C_alloc ?_ _) | (with_reducible refine Kd.C_drewN ?_ _) | (with_reducible refine Kd.C_drew ?_) | exact HR125_1.out)); (try have hcv39d := fun m_ => Kd.C_string (P := Try.prog) (A := A124_1) (c := c124_1) Try.underlying22 Try.underlying5 Try.underlying9 (Kd.C_drewN HR125_1.out m_)); have p126 : 0 ≤ (x11_2 : Int) := of_decide_eq_true (by first | (with_reducible assumption) | assumption); have q126 : x11_2 < (l1.length : Int) := of_decide_eq_true (by first | (with_reducible assumption) | assumption); obtain ⟨ad126, A126_1, c126_1, e126, hx126_0, hx126_1, hl126_1, hi126_1⟩ := at_T40 HR1.out x11_2 p126 q126; obtain rfl : ad119 = ad126 := (by injection e126); replace hx126_0 := (HB.out.cell (World.block_lt_of_cell? w _ hx126_0)).trans hx126_0; replace hx126_1 := (HB.out.cell (World.block_lt_of_cell? w _ hx126_1)).trans hx126_1; have HR126_1 := Aside0.mk hi126_1; have HC126_1 := Aside0.mk hl126_1; clear hi126_1 hl126_1; replace p126 := eq_true p126; replace q126 := eq_true q126; have hcv40 := Kd.C_string (P := Try.prog) (A := A126_1) (c := c126_1) Try.underlying22 Try.underlying5 Try.underlying9 (Kd.C_below HR126_1.out HB.out); (try have hcv40d := fun m_ => Kd.C_string (P := Try.prog) (A := A126_1) (c := c126_1) Try.underlying22 Try.underlying5 Try.underlying9 (Kd.C_drewN (Kd.C_below HR126_1.out HB.out) m_)))))
                                          go_roundg kj18
                                          case measure => have := HJ3.out; have := HK2.out; have := HJ18.out; omega
                                          case rel => exact ⟨(wrap64 (x9_2 + 1)), (x10_2), (wrap64 (x11_2 + 1)), (by first | rfl | (simp; done) | (simp [*]; done)), (by first | rfl | (simp; done) | (simp [*]; done)), (by first | rfl | (simp; done) | (simp [*]; done)), H', ⟨by have := HJ3.out; have := HK2.out; have := HJ18.out; omega⟩, ⟨by (with_reducible repeat (first | apply Kd.N_alloc | apply Kd.N_drewN | apply Kd.N_drew)); exact HO_7.out⟩, ⟨by (with_reducible repeat (first | apply Kd.N_alloc | apply Kd.N_drewN | apply Kd.N_drew)); exact HO_8.out⟩, ⟨by repeat (first | (with_reducible first | exact HB.out | apply below_alloc | apply pw_below_drewN | apply below_drew1) | exact HB.out)⟩⟩
                                      · rw [if_neg c38] at H
                                        have c38b0 : ((strOfNums ((rd_T40 t113 x9_2).f1)).toList == (strOfNums ((rd_T40 l1 x11_2).f1)).toList) = false := beq_eq_false_iff_ne.mpr c38
                                        have c38b1 : ((strOfNums ((rd_T40 t113 x9_2).f1)).toList != (strOfNums ((rd_T40 l1 x11_2).f1)).toList) = true := bne_iff_ne.mpr c38
                                        obtain rfl := Option.some.inj H
                                        as_aux_lemma =>
                                          go_wp2_with (first | (go_at_call 26; (with_reducible refine (polyglotlaw07_in.calls a0 ((rd_T40 l1 x11_2).f0) true _ A30.out).mono ?_); rintro e w' ⟨rfl, ⟨nd, rfl⟩⟩; (try first | exact ⟨rfl, _, World.drewN_drewN _ _ _⟩ | exact ⟨rfl, _, Eq.trans (World.drewN_drewN _ _ _) (congrArg (World.drewN _) (Nat.add_assoc _ _ _))⟩); have p124 : 0 ≤ (x9_2 : Int) := of_decide_eq_true (by first | (with_reducible assumption) | assumption); have q124 : x9_2 < (t113.length : Int) := of_decide_eq_true (by first | (with_reducible assumption) | assumption); obtain ⟨ad124, A124_1, c124_1, e124, hx124_0, hx124_1, hl124_1, hi124_1⟩ := at_T40 (Kd.N_reads' HO_7.out).2.2 x9_2 p124 q124; cases e124; obtain ⟨ce124, hce124, hMe124, hcc124⟩ := Kd.N_get HO_7.out z40 x9_2 p124 (by first | exact q124 | exact of_decide_eq_true (by first | (with_reducible assumption) | assumption) | (have e_ := (Kd.N_reads' HO_7.out).1; omega)); obtain ⟨ua124_1, uc124_1, rfl, ul124_1, ge124_1⟩ := k40_openF hMe124; have hv124_1 := hcc124 1 _ rfl; rw [add_field _ _ 1 (by omega)] at hv124_1; replace hv124_1 := Option.some.inj (hv124_1.symm.trans hx124_1); injection hv124_1 with hva_ hvn_ hvc_; rw [hva_] at ge124_1; rw [hvc_] at ul124_1; have HL124_1 := Aside0.mk (show Kd.V (Kd.int .u8) 5 _ w.heap.size _ _ ((rd_T40 t113 x9_2).f1) from Kd.V_mk ul124_1 ge124_1); clear hva_ hvn_ hvc_ ge124_1 ul124_1; clear hcc124 hce124; have HR124_1 := Aside0.mk hi124_1; have HC124_1 := Aside0.mk hl124_1; clear hi124_1 hl124_1; replace p124 := eq_true p124; replace q124 := eq_true q124; have p125 : 0 ≤ (x9_2 : Int) := of_decide_eq_true (by first | (with_reducible assumption) | assumption); have q125 : x9_2 < (t113.length : Int) := of_decide_eq_true (by first | (with_reducible assumption) | assumption); obtain ⟨ad125, A125_1, c125_1, e125, hx125_0, hx125_1, hl125_1, hi125_1⟩ := at_T40 (Kd.N_reads' HO_7.out).2.2 x9_2 p125 q125; obtain rfl : ad124 = ad125 := (by injection e125); obtain ⟨ce125, hce125, hMe125, hcc125⟩ := Kd.N_get HO_7.out z40 x9_2 p125 (by first | exact q125 | exact of_decide_eq_true (by first | (with_reducible assumption) | assumption) | (have e_ := (Kd.N_reads' HO_7.out).1; omega)); obtain ⟨ua125_1, uc125_1, rfl, ul125_1, ge125_1⟩ := k40_openF hMe125; have hv125_1 := hcc125 1 _ rfl; rw [add_field _ _ 1 (by omega)] at hv125_1; replace hv125_1 := Option.some.inj (hv125_1.symm.trans hx125_1); injection hv125_1 with hva_ hvn_ hvc_; rw [hva_] at ge125_1; rw [hvc_] at ul125_1; have HL125_1 := Aside0.mk (show Kd.V (Kd.int .u8) 5 _ w.heap.size _ _ ((rd_T40 t113 x9_2).f1) from Kd.V_mk ul125_1 ge125_1); clear hva_ hvn_ hvc_ ge125_1 ul125_1; clear hcc125 hce125; have HR125_1 := Aside0.mk hi125_1; have HC125_1 := Aside0.mk hl125_1; clear hi125_1 hl125_1; replace p125 := eq_true p125; replace q125 := eq_true q125; have ea_ := Option.some.inj (hx124_1.symm.trans hx125_1); injection ea_ with ea_ en_ ec_; subst ea_; subst ec_; clear en_; have hcv41 := Kd.C_string (P := Try.prog) (A := A124_1) (c := c124_1) Try.underlying22 Try.underlying5 Try.underlying9 (by repeat (first | (with_reducible exact HR125_1.out) | (with_reducible refine Kd.C_alloc ?_ _) | (with_reducible refine Kd.C_drewN ?_ _) | (with_reducible refine Kd.C_drew ?_) | exact HR125_1.out)); (try have hcv41d := fun m_ => Kd.C_string (P := Try.prog) (A := A124_1) (c := c124_1) Try.underlying22 Try.underlying5 Try.underlying9 (Kd.C_drewN HR125_1.out m_)); have p126 : 0 ≤ (x11_2 : Int) := of_decide_eq_true (by first | (with_reducible assumption) | assumption); have q126 : x11_2 < (l1.length : Int) := of_decide_eq_true (by first | (with_reducible assumption) | assumption); obtain ⟨ad126, A126_1, c126_1, e126, hx126_0, hx126_1, hl126_1, hi126_1⟩ := at_T40 HR1.out x11_2 p126 q126; obtain rfl : ad119 = ad126 := (by injection e126); replace hx126_0 := (HB.out.cell (World.block_lt_of_cell? w _ hx126_0)).trans hx126_0; replace hx126_1 := (HB.out.cell (World.block_lt_of_cell? w _ hx126_1)).trans hx126_1; have HR126_1 := Aside0.mk hi126_1; have HC126_1 := Aside0.mk hl126_1; clear hi126_1 hl126_1; replace p126 := eq_true p126; replace q126 := eq_true q126; have hcv42 := Kd.C_string (P := Try.prog) (A := A126_1) (c := c126_1) Try.underlying22 Try.underlying5 Try.underlying9 (Kd.C_below HR126_1.out HB.out); (try have hcv42d := fun m_ => Kd.C_string (P := Try.prog) (A := A126_1) (c := c126_1) Try.underlying22 Try.underlying5 Try.underlying9 (Kd.C_drewN (Kd.C_below HR126_1.out HB.out) m_))))
                                          repeat (go_quiet (first | (go_at_call 26; (with_reducible refine (polyglotlaw07_in.calls a0 ((rd_T40 l1 x11_2).f0) true _ A30.out).mono ?_); rintro e w' ⟨rfl, ⟨nd, rfl⟩⟩; (try first | exact ⟨rfl, _, World.drewN_drewN _ _ _⟩ | exact ⟨rfl, _, Eq.trans (World.drewN_drewN _ _ _) (congrArg (World.drewN _) (Nat.add_assoc _ _ _))⟩); have p124 : 0 ≤ (x9_2 : Int) := of_decide_eq_true (by first | (with_reducible assumption) | assumption); have q124 : x9_2 < (t113.length : Int) := of_decide_eq_true (by first | (with_reducible assumption) | assumption); obtain ⟨ad124, A124_1, c124_1, e124, hx124_0, hx124_1, hl124_1, hi124_1⟩ := at_T40 (Kd.N_reads' HO_7.out).2.2 x9_2 p124 q124; cases e124; obtain ⟨ce124, hce124, hMe124, hcc124⟩ := Kd.N_get HO_7.out z40 x9_2 p124 (by first | exact q124 | exact of_decide_eq_true (by first | (with_reducible assumption) | assumption) | (have e_ := (Kd.N_reads' HO_7.out).1; omega)); obtain ⟨ua124_1, uc124_1, rfl, ul124_1, ge124_1⟩ := k40_openF hMe124; have hv124_1 := hcc124 1 _ rfl; rw [add_field _ _ 1 (by omega)] at hv124_1; replace hv124_1 := Option.some.inj (hv124_1.symm.trans hx124_1); injection hv124_1 with hva_ hvn_ hvc_; rw [hva_] at ge124_1; rw [hvc_] at ul124_1; have HL124_1 := Aside0.mk (show Kd.V (Kd.int .u8) 5 _ w.heap.size _ _ ((rd_T40 t113 x9_2).f1) from Kd.V_mk ul124_1 ge124_1); clear hva_ hvn_ hvc_ ge124_1 ul124_1; clear hcc124 hce124; have HR124_1 := Aside0.mk hi124_1; have HC124_1 := Aside0.mk hl124_1; clear hi124_1 hl124_1; replace p124 := eq_true p124; replace q124 := eq_true q124; have p125 : 0 ≤ (x9_2 : Int) := of_decide_eq_true (by first | (with_reducible assumption) | assumption); have q125 : x9_2 < (t113.length : Int) := of_decide_eq_true (by first | (with_reducible assumption) | assumption); obtain ⟨ad125, A125_1, c125_1, e125, hx125_0, hx125_1, hl125_1, hi125_1⟩ := at_T40 (Kd.N_reads' HO_7.out).2.2 x9_2 p125 q125; obtain rfl : ad124 = ad125 := (by injection e125); obtain ⟨ce125, hce125, hMe125, hcc125⟩ := Kd.N_get HO_7.out z40 x9_2 p125 (by first | exact q125 | exact of_decide_eq_true (by first | (with_reducible assumption) | assumption) | (have e_ := (Kd.N_reads' HO_7.out).1; omega)); obtain ⟨ua125_1, uc125_1, rfl, ul125_1, ge125_1⟩ := k40_openF hMe125; have hv125_1 := hcc125 1 _ rfl; rw [add_field _ _ 1 (by omega)] at hv125_1; replace hv125_1 := Option.some.inj (hv125_1.symm.trans hx125_1); injection hv125_1 with hva_ hvn_ hvc_; rw [hva_] at ge125_1; rw [hvc_] at ul125_1; have HL125_1 := Aside0.mk (show Kd.V (Kd.int .u8) 5 _ w.heap.size _ _ ((rd_T40 t113 x9_2).f1) from Kd.V_mk ul125_1 ge125_1); clear hva_ hvn_ hvc_ ge125_1 ul125_1; clear hcc125 hce125; have HR125_1 := Aside0.mk hi125_1; have HC125_1 := Aside0.mk hl125_1; clear hi125_1 hl125_1; replace p125 := eq_true p125; replace q125 := eq_true q125; have ea_ := Option.some.inj (hx124_1.symm.trans hx125_1); injection ea_ with ea_ en_ ec_; subst ea_; subst ec_; clear en_; have hcv41 := Kd.C_string (P := Try.prog) (A := A124_1) (c := c124_1) Try.underlying22 Try.underlying5 Try.underlying9 (by repeat (first | (with_reducible exact HR125_1.out) | (with_reducible refine Kd.C_alloc ?_ _) | (with_reducible refine Kd.C_drewN ?_ _) | (with_reducible refine Kd.C_drew ?_) | exact HR125_1.out)); (try have hcv41d := fun m_ => Kd.C_string (P := Try.prog) (A := A124_1) (c := c124_1) Try.underlying22 Try.underlying5 Try.underlying9 (Kd.C_drewN HR125_1.out m_)); have p126 : 0 ≤ (x11_2 : Int) := of_decide_eq_true (by first | (with_reducible assumption) | assumption); have q126 : x11_2 < (l1.length : Int) := of_decide_eq_true (by first | (with_reducible assumption) | assumption); obtain ⟨ad126, A126_1, c126_1, e126, hx126_0, hx126_1, hl126_1, hi126_1⟩ := at_T40 HR1.out x11_2 p126 q126; obtain rfl : ad119 = ad126 := (by injection e126); replace hx126_0 := (HB.out.cell (World.block_lt_of_cell? w _ hx126_0)).trans hx126_0; replace hx126_1 := (HB.out.cell (World.block_lt_of_cell? w _ hx126_1)).trans hx126_1; have HR126_1 := Aside0.mk hi126_1; have HC126_1 := Aside0.mk hl126_1; clear hi126_1 hl126_1; replace p126 := eq_true p126; replace q126 := eq_true q126; have hcv42 := Kd.C_string (P := Try.prog) (A := A126_1) (c := c126_1) Try.underlying22 Try.underlying5 Try.underlying9 (Kd.C_below HR126_1.out HB.out); (try have hcv42d := fun m_ => Kd.C_string (P := Try.prog) (A := A126_1) (c := c126_1) Try.underlying22 Try.underlying5 Try.underlying9 (Kd.C_drewN (Kd.C_below HR126_1.out HB.out) m_)))); try go_wp2_with (first | (go_at_call 26; (with_reducible refine (polyglotlaw07_in.calls a0 ((rd_T40 l1 x11_2).f0) true _ A30.out).mono ?_); rintro e w' ⟨rfl, ⟨nd, rfl⟩⟩; (try first | exact ⟨rfl, _, World.drewN_drewN _ _ _⟩ | exact ⟨rfl, _, Eq.trans (World.drewN_drewN _ _ _) (congrArg (World.drewN _) (Nat.add_assoc _ _ _))⟩); have p124 : 0 ≤ (x9_2 : Int) := of_decide_eq_true (by first | (with_reducible assumption) | assumption); have q124 : x9_2 < (t113.length : Int) := of_decide_eq_true (by first | (with_reducible assumption) | assumption); obtain ⟨ad124, A124_1, c124_1, e124, hx124_0, hx124_1, hl124_1, hi124_1⟩ := at_T40 (Kd.N_reads' HO_7.out).2.2 x9_2 p124 q124; cases e124; obtain ⟨ce124, hce124, hMe124, hcc124⟩ := Kd.N_get HO_7.out z40 x9_2 p124 (by first | exact q124 | exact of_decide_eq_true (by first | (with_reducible assumption) | assumption) | (have e_ := (Kd.N_reads' HO_7.out).1; omega)); obtain ⟨ua124_1, uc124_1, rfl, ul124_1, ge124_1⟩ := k40_openF hMe124; have hv124_1 := hcc124 1 _ rfl; rw [add_field _ _ 1 (by omega)] at hv124_1; replace hv124_1 := Option.some.inj (hv124_1.symm.trans hx124_1); injection hv124_1 with hva_ hvn_ hvc_; rw [hva_] at ge124_1; rw [hvc_] at ul124_1; have HL124_1 := Aside0.mk (show Kd.V (Kd.int .u8) 5 _ w.heap.size _ _ ((rd_T40 t113 x9_2).f1) from Kd.V_mk ul124_1 ge124_1); clear hva_ hvn_ hvc_ ge124_1 ul124_1; clear hcc124 hce124; have HR124_1 := Aside0.mk hi124_1; have HC124_1 := Aside0.mk hl124_1; clear hi124_1 hl124_1; replace p124 := eq_true p124; replace q124 := eq_true q124; have p125 : 0 ≤ (x9_2 : Int) := of_decide_eq_true (by first | (with_reducible assumption) | assumption); have q125 : x9_2 < (t113.length : Int) := of_decide_eq_true (by first | (with_reducible assumption) | assumption); obtain ⟨ad125, A125_1, c125_1, e125, hx125_0, hx125_1, hl125_1, hi125_1⟩ := at_T40 (Kd.N_reads' HO_7.out).2.2 x9_2 p125 q125; obtain rfl : ad124 = ad125 := (by injection e125); obtain ⟨ce125, hce125, hMe125, hcc125⟩ := Kd.N_get HO_7.out z40 x9_2 p125 (by first | exact q125 | exact of_decide_eq_true (by first | (with_reducible assumption) | assumption) | (have e_ := (Kd.N_reads' HO_7.out).1; omega)); obtain ⟨ua125_1, uc125_1, rfl, ul125_1, ge125_1⟩ := k40_openF hMe125; have hv125_1 := hcc125 1 _ rfl; rw [add_field _ _ 1 (by omega)] at hv125_1; replace hv125_1 := Option.some.inj (hv125_1.symm.trans hx125_1); injection hv125_1 with hva_ hvn_ hvc_; rw [hva_] at ge125_1; rw [hvc_] at ul125_1; have HL125_1 := Aside0.mk (show Kd.V (Kd.int .u8) 5 _ w.heap.size _ _ ((rd_T40 t113 x9_2).f1) from Kd.V_mk ul125_1 ge125_1); clear hva_ hvn_ hvc_ ge125_1 ul125_1; clear hcc125 hce125; have HR125_1 := Aside0.mk hi125_1; have HC125_1 := Aside0.mk hl125_1; clear hi125_1 hl125_1; replace p125 := eq_true p125; replace q125 := eq_true q125; have ea_ := Option.some.inj (hx124_1.symm.trans hx125_1); injection ea_ with ea_ en_ ec_; subst ea_; subst ec_; clear en_; have hcv41 := Kd.C_string (P := Try.prog) (A := A124_1) (c := c124_1) Try.underlying22 Try.underlying5 Try.underlying9 (by repeat (first | (with_reducible exact HR125_1.out) | (with_reducible refine Kd.C_alloc ?_ _) | (with_reducible refine Kd.C_drewN ?_ _) | (with_reducible refine Kd.C_drew ?_) | exact HR125_1.out)); (try have hcv41d := fun m_ => Kd.C_string (P := Try.prog) (A := A124_1) (c := c124_1) Try.underlying22 Try.underlying5 Try.underlying9 (Kd.C_drewN HR125_1.out m_)); have p126 : 0 ≤ (x11_2 : Int) := of_decide_eq_true (by first | (with_reducible assumption) | assumption); have q126 : x11_2 < (l1.length : Int) := of_decide_eq_true (by first | (with_reducible assumption) | assumption); obtain ⟨ad126, A126_1, c126_1, e126, hx126_0, hx126_1, hl126_1, hi126_1⟩ := at_T40 HR1.out x11_2 p126 q126; obtain rfl : ad119 = ad126 := (by injection e126); replace hx126_0 := (HB.out.cell (World.block_lt_of_cell? w _ hx126_0)).trans hx126_0; replace hx126_1 := (HB.out.cell (World.block_lt_of_cell? w _ hx126_1)).trans hx126_1; have HR126_1 := Aside0.mk hi126_1; have HC126_1 := Aside0.mk hl126_1; clear hi126_1 hl126_1; replace p126 := eq_true p126; replace q126 := eq_true q126; have hcv42 := Kd.C_string (P := Try.prog) (A := A126_1) (c := c126_1) Try.underlying22 Try.underlying5 Try.underlying9 (Kd.C_below HR126_1.out HB.out); (try have hcv42d := fun m_ => Kd.C_string (P := Try.prog) (A := A126_1) (c := c126_1) Try.underlying22 Try.underlying5 Try.underlying9 (Kd.C_drewN (Kd.C_below HR126_1.out HB.out) m_)))))
                                          go_ret
                                          exact ⟨by first | rfl | (simp [errW_none, errW_some] <;> rfl) | (simp [*, errW_none, errW_some] <;> rfl), by repeat (first | (with_reducible first | exact HB.out | apply below_alloc | apply pw_below_drewN | apply below_drew1) | exact HB.out)⟩
                                    · rw [if_neg c37] at H
                                      exact absurd H (by simp)
                                  · rw [if_neg c36] at H
                                    exact absurd H (by simp)
                                · rw [if_neg c35] at H
                                  have c35b0 : (((rd_T40 t113 x9_2).f0) == ((rd_T40 l1 x11_2).f0)) = false := beq_eq_false_iff_ne.mpr c35
                                  have c35b1 : (((rd_T40 t113 x9_2).f0) != ((rd_T40 l1 x11_2).f0)) = true := bne_iff_ne.mpr c35
                                  obtain rfl := Option.some.inj H
                                  as_aux_lemma =>
                                    go_wp2_with (first | (go_at_call 26; (with_reducible refine (polyglotlaw07_in.calls a0 ((rd_T40 l1 x11_2).f0) true _ A30.out).mono ?_); rintro e w' ⟨rfl, ⟨nd, rfl⟩⟩; (try first | exact ⟨rfl, _, World.drewN_drewN _ _ _⟩ | exact ⟨rfl, _, Eq.trans (World.drewN_drewN _ _ _) (congrArg (World.drewN _) (Nat.add_assoc _ _ _))⟩); have p124 : 0 ≤ (x9_2 : Int) := of_decide_eq_true (by first | (with_reducible assumption) | assumption); have q124 : x9_2 < (t113.length : Int) := of_decide_eq_true (by first | (with_reducible assumption) | assumption); obtain ⟨ad124, A124_1, c124_1, e124, hx124_0, hx124_1, hl124_1, hi124_1⟩ := at_T40 (Kd.N_reads' HO_7.out).2.2 x9_2 p124 q124; cases e124; obtain ⟨ce124, hce124, hMe124, hcc124⟩ := Kd.N_get HO_7.out z40 x9_2 p124 (by first | exact q124 | exact of_decide_eq_true (by first | (with_reducible assumption) | assumption) | (have e_ := (Kd.N_reads' HO_7.out).1; omega)); obtain ⟨ua124_1, uc124_1, rfl, ul124_1, ge124_1⟩ := k40_openF hMe124; have hv124_1 := hcc124 1 _ rfl; rw [add_field _ _ 1 (by omega)] at hv124_1; replace hv124_1 := Option.some.inj (hv124_1.symm.trans hx124_1); injection hv124_1 with hva_ hvn_ hvc_; rw [hva_] at ge124_1; rw [hvc_] at ul124_1; have HL124_1 := Aside0.mk (show Kd.V (Kd.int .u8) 5 _ w.heap.size _ _ ((rd_T40 t113 x9_2).f1) from Kd.V_mk ul124_1 ge124_1); clear hva_ hvn_ hvc_ ge124_1 ul124_1; clear hcc124 hce124; have HR124_1 := Aside0.mk hi124_1; have HC124_1 := Aside0.mk hl124_1; clear hi124_1 hl124_1; replace p124 := eq_true p124; replace q124 := eq_true q124))
                                    repeat (go_quiet (first | (go_at_call 26; (with_reducible refine (polyglotlaw07_in.calls a0 ((rd_T40 l1 x11_2).f0) true _ A30.out).mono ?_); rintro e w' ⟨rfl, ⟨nd, rfl⟩⟩; (try first | exact ⟨rfl, _, World.drewN_drewN _ _ _⟩ | exact ⟨rfl, _, Eq.trans (World.drewN_drewN _ _ _) (congrArg (World.drewN _) (Nat.add_assoc _ _ _))⟩); have p124 : 0 ≤ (x9_2 : Int) := of_decide_eq_true (by first | (with_reducible assumption) | assumption); have q124 : x9_2 < (t113.length : Int) := of_decide_eq_true (by first | (with_reducible assumption) | assumption); obtain ⟨ad124, A124_1, c124_1, e124, hx124_0, hx124_1, hl124_1, hi124_1⟩ := at_T40 (Kd.N_reads' HO_7.out).2.2 x9_2 p124 q124; cases e124; obtain ⟨ce124, hce124, hMe124, hcc124⟩ := Kd.N_get HO_7.out z40 x9_2 p124 (by first | exact q124 | exact of_decide_eq_true (by first | (with_reducible assumption) | assumption) | (have e_ := (Kd.N_reads' HO_7.out).1; omega)); obtain ⟨ua124_1, uc124_1, rfl, ul124_1, ge124_1⟩ := k40_openF hMe124; have hv124_1 := hcc124 1 _ rfl; rw [add_field _ _ 1 (by omega)] at hv124_1; replace hv124_1 := Option.some.inj (hv124_1.symm.trans hx124_1); injection hv124_1 with hva_ hvn_ hvc_; rw [hva_] at ge124_1; rw [hvc_] at ul124_1; have HL124_1 := Aside0.mk (show Kd.V (Kd.int .u8) 5 _ w.heap.size _ _ ((rd_T40 t113 x9_2).f1) from Kd.V_mk ul124_1 ge124_1); clear hva_ hvn_ hvc_ ge124_1 ul124_1; clear hcc124 hce124; have HR124_1 := Aside0.mk hi124_1; have HC124_1 := Aside0.mk hl124_1; clear hi124_1 hl124_1; replace p124 := eq_true p124; replace q124 := eq_true q124)); try go_wp2_with (first | (go_at_call 26; (with_reducible refine (polyglotlaw07_in.calls a0 ((rd_T40 l1 x11_2).f0) true _ A30.out).mono ?_); rintro e w' ⟨rfl, ⟨nd, rfl⟩⟩; (try first | exact ⟨rfl, _, World.drewN_drewN _ _ _⟩ | exact ⟨rfl, _, Eq.trans (World.drewN_drewN _ _ _) (congrArg (World.drewN _) (Nat.add_assoc _ _ _))⟩); have p124 : 0 ≤ (x9_2 : Int) := of_decide_eq_true (by first | (with_reducible assumption) | assumption); have q124 : x9_2 < (t113.length : Int) := of_decide_eq_true (by first | (with_reducible assumption) | assumption); obtain ⟨ad124, A124_1, c124_1, e124, hx124_0, hx124_1, hl124_1, hi124_1⟩ := at_T40 (Kd.N_reads' HO_7.out).2.2 x9_2 p124 q124; cases e124; obtain ⟨ce124, hce124, hMe124, hcc124⟩ := Kd.N_get HO_7.out z40 x9_2 p124 (by first | exact q124 | exact of_decide_eq_true (by first | (with_reducible assumption) | assumption) | (have e_ := (Kd.N_reads' HO_7.out).1; omega)); obtain ⟨ua124_1, uc124_1, rfl, ul124_1, ge124_1⟩ := k40_openF hMe124; have hv124_1 := hcc124 1 _ rfl; rw [add_field _ _ 1 (by omega)] at hv124_1; replace hv124_1 := Option.some.inj (hv124_1.symm.trans hx124_1); injection hv124_1 with hva_ hvn_ hvc_; rw [hva_] at ge124_1; rw [hvc_] at ul124_1; have HL124_1 := Aside0.mk (show Kd.V (Kd.int .u8) 5 _ w.heap.size _ _ ((rd_T40 t113 x9_2).f1) from Kd.V_mk ul124_1 ge124_1); clear hva_ hvn_ hvc_ ge124_1 ul124_1; clear hcc124 hce124; have HR124_1 := Aside0.mk hi124_1; have HC124_1 := Aside0.mk hl124_1; clear hi124_1 hl124_1; replace p124 := eq_true p124; replace q124 := eq_true q124)))
                                    go_ret
                                    exact ⟨by first | rfl | (simp [errW_none, errW_some] <;> rfl) | (simp [*, errW_none, errW_some] <;> rfl), by repeat (first | (with_reducible first | exact HB.out | apply below_alloc | apply pw_below_drewN | apply below_drew1) | exact HB.out)⟩
                              · rw [if_neg c34] at H
                                exact absurd H (by simp)
                            · rw [if_neg c33] at H
                              exact absurd H (by simp)
                        · replace c31 := Bool.eq_false_iff.mpr c31
                          subst c31
                          have H1 : (if x10_2 ≥ (t116.length : Int) then (some false) else (if 0 ≤ x10_2 then (if x10_2 < (t116.length : Int) then (if ((rd_T40 t116 x10_2).f0) = ((rd_T40 l1 x11_2).f0) then (if 0 ≤ x11_2 then (if x11_2 < (l1.length : Int) then (if (strOfNums ((rd_T40 t116 x10_2).f1)).toList = (strOfNums ((rd_T40 l1 x11_2).f1)).toList then (polyglotlaw07_KnownSplits.l0 kj18 a0 l1 a2 t113 t116 x9_2 (wrap64 (x10_2 + 1)) (wrap64 (x11_2 + 1))) else (some false)) else (none)) else (none)) else (some false)) else (none)) else (none))) = some r := by rw [if_neg (show ¬ (false = true) by decide)] at H; exact H
                          clear H
                          have H := H1
                          clear H1
                          by_cases c43 : x10_2 ≥ (t116.length : Int)
                          · rw [if_pos c43] at H
                            have c43b0 : decide ((t116.length : Int) ≤ x10_2) = true := decide_eq_true c43
                            clear c43
                            obtain rfl := Option.some.inj H
                            as_aux_lemma =>
                              go_wp2_with (first | (go_at_call 26; (with_reducible refine (polyglotlaw07_in.calls a0 ((rd_T40 l1 x11_2).f0) false _ A30.out).mono ?_); rintro e w' ⟨rfl, ⟨nd, rfl⟩⟩; (try first | exact ⟨rfl, _, World.drewN_drewN _ _ _⟩ | exact ⟨rfl, _, Eq.trans (World.drewN_drewN _ _ _) (congrArg (World.drewN _) (Nat.add_assoc _ _ _))⟩)))
                              repeat (go_quiet (first | (go_at_call 26; (with_reducible refine (polyglotlaw07_in.calls a0 ((rd_T40 l1 x11_2).f0) false _ A30.out).mono ?_); rintro e w' ⟨rfl, ⟨nd, rfl⟩⟩; (try first | exact ⟨rfl, _, World.drewN_drewN _ _ _⟩ | exact ⟨rfl, _, Eq.trans (World.drewN_drewN _ _ _) (congrArg (World.drewN _) (Nat.add_assoc _ _ _))⟩))); try go_wp2_with (first | (go_at_call 26; (with_reducible refine (polyglotlaw07_in.calls a0 ((rd_T40 l1 x11_2).f0) false _ A30.out).mono ?_); rintro e w' ⟨rfl, ⟨nd, rfl⟩⟩; (try first | exact ⟨rfl, _, World.drewN_drewN _ _ _⟩ | exact ⟨rfl, _, Eq.trans (World.drewN_drewN _ _ _) (congrArg (World.drewN _) (Nat.add_assoc _ _ _))⟩))))
                              go_ret
                              exact ⟨by first | rfl | (simp [errW_none, errW_some] <;> rfl) | (simp [*, errW_none, errW_some] <;> rfl), by repeat (first | (with_reducible first | exact HB.out | apply below_alloc | apply pw_below_drewN | apply below_drew1) | exact HB.out)⟩
                          · rw [if_neg c43] at H
                            have c43b0 : decide ((t116.length : Int) ≤ x10_2) = false := decide_eq_false c43
                            clear c43
                            by_cases c44 : 0 ≤ x10_2
                            · rw [if_pos c44] at H
                              have c44b0 : decide (0 ≤ x10_2) = true := decide_eq_true c44
                              clear c44
                              by_cases c45 : x10_2 < (t116.length : Int)
                              · rw [if_pos c45] at H
                                have c45b0 : decide (x10_2 < (t116.length : Int)) = true := decide_eq_true c45
                                clear c45
                                by_cases c46 : ((rd_T40 t116 x10_2).f0) = ((rd_T40 l1 x11_2).f0)
                                · rw [if_pos c46] at H
                                  have c46b0 : (((rd_T40 t116 x10_2).f0) == ((rd_T40 l1 x11_2).f0)) = true := beq_iff_eq.mpr c46
                                  have c46b1 : (((rd_T40 t116 x10_2).f0) != ((rd_T40 l1 x11_2).f0)) = false := bne_eq_false_iff_eq.mpr c46
                                  clear c46
                                  by_cases c47 : 0 ≤ x11_2
                                  · rw [if_pos c47] at H
                                    have c47b0 : decide (0 ≤ x11_2) = true := decide_eq_true c47
                                    clear c47
                                    by_cases c48 : x11_2 < (l1.length : Int)
                                    · rw [if_pos c48] at H
                                      have c48b0 : decide (x11_2 < (l1.length : Int)) = true := decide_eq_true c48
                                      clear c48
                                      by_cases c49 : (strOfNums ((rd_T40 t116 x10_2).f1)).toList = (strOfNums ((rd_T40 l1 x11_2).f1)).toList
                                      · rw [if_pos c49] at H
                                        have c49b0 : ((strOfNums ((rd_T40 t116 x10_2).f1)).toList == (strOfNums ((rd_T40 l1 x11_2).f1)).toList) = true := beq_iff_eq.mpr c49
                                        have c49b1 : ((strOfNums ((rd_T40 t116 x10_2).f1)).toList != (strOfNums ((rd_T40 l1 x11_2).f1)).toList) = false := bne_eq_false_iff_eq.mpr c49
                                        clear c49
                                        have H' := Aside0.mk H
                                        clear H
                                        as_aux_lemma =>
                                          go_wp2_with (first | (go_at_call 26; (with_reducible refine (polyglotlaw07_in.calls a0 ((rd_T40 l1 x11_2).f0) false _ A30.out).mono ?_); rintro e w' ⟨rfl, ⟨nd, rfl⟩⟩; (try first | exact ⟨rfl, _, World.drewN_drewN _ _ _⟩ | exact ⟨rfl, _, Eq.trans (World.drewN_drewN _ _ _) (congrArg (World.drewN _) (Nat.add_assoc _ _ _))⟩); have p127 : 0 ≤ (x10_2 : Int) := of_decide_eq_true (by first | (with_reducible assumption) | assumption); have q127 : x10_2 < (t116.length : Int) := of_decide_eq_true (by first | (with_reducible assumption) | assumption); obtain ⟨ad127, A127_1, c127_1, e127, hx127_0, hx127_1, hl127_1, hi127_1⟩ := at_T40 (Kd.N_reads' HO_8.out).2.2 x10_2 p127 q127; cases e127; obtain ⟨ce127, hce127, hMe127, hcc127⟩ := Kd.N_get HO_8.out z40 x10_2 p127 (by first | exact q127 | exact of_decide_eq_true (by first | (with_reducible assumption) | assumption) | (have e_ := (Kd.N_reads' HO_8.out).1; omega)); obtain ⟨ua127_1, uc127_1, rfl, ul127_1, ge127_1⟩ := k40_openF hMe127; have hv127_1 := hcc127 1 _ rfl; rw [add_field _ _ 1 (by omega)] at hv127_1; replace hv127_1 := Option.some.inj (hv127_1.symm.trans hx127_1); injection hv127_1 with hva_ hvn_ hvc_; rw [hva_] at ge127_1; rw [hvc_] at ul127_1; have HL127_1 := Aside0.mk (show Kd.V (Kd.int .u8) 5 _ w.heap.size _ _ ((rd_T40 t116 x10_2).f1) from Kd.V_mk ul127_1 ge127_1); clear hva_ hvn_ hvc_ ge127_1 ul127_1; clear hcc127 hce127; have HR127_1 := Aside0.mk hi127_1; have HC127_1 := Aside0.mk hl127_1; clear hi127_1 hl127_1; replace p127 := eq_true p127; replace q127 := eq_true q127; have p128 : 0 ≤ (x10_2 : Int) := of_decide_eq_true (by first | (with_reducible assumption) | assumption); have q128 : x10_2 < (t116.length : Int) := of_decide_eq_true (by first | (with_reducible assumption) | assumption); obtain ⟨ad128, A128_1, c128_1, e128, hx128_0, hx128_1, hl128_1, hi128_1⟩ := at_T40 (Kd.N_reads' HO_8.out).2.2 x10_2 p128 q128; obtain rfl : ad127 = ad128 := (by injection e128); obtain ⟨ce128, hce128, hMe128, hcc128⟩ := Kd.N_get HO_8.out z40 x10_2 p128 (by first | exact q128 | exact of_decide_eq_true (by first | (with_reducible assumption) | assumption) | (have e_ := (Kd.N_reads' HO_8.out).1; omega)); obtain ⟨ua128_1, uc128_1, rfl, ul128_1, ge128_1⟩ := k40_openF hMe128; have hv128_1 := hcc128 1 _ rfl; rw [add_field _ _ 1 (by omega)] at hv128_1; replace hv128_1 := Option.some.inj (hv128_1.symm.trans hx128_1); injection hv128_1 with hva_ hvn_ hvc_; rw [hva_] at ge128_1; rw [hvc_] at ul128_1; have HL128_1 := Aside0.mk (show Kd.V (Kd.int .u8) 5 _ w.heap.size _ _ ((rd_T40 t116 x10_2).f1) from Kd.V_mk ul128_1 ge128_1); clear hva_ hvn_ hvc_ ge128_1 ul128_1; clear hcc128 hce128; have HR128_1 := Aside0.mk hi128_1; have HC128_1 := Aside0.mk hl128_1; clear hi128_1 hl128_1; replace p128 := eq_true p128; replace q128 := eq_true q128; have ea_ := Option.some.inj (hx127_1.symm.trans hx128_1); injection ea_ with ea_ en_ ec_; subst ea_; subst ec_; clear en_; have hcv50 := Kd.C_string (P := Try.prog) (A := A127_1) (c := c127_1) Try.underlying22 Try.underlying5 Try.underlying9 (by repeat (first | (with_reducible exact HR128_1.out) | (with_reducible refine Kd.C_alloc ?_ _) | (with_reducible refine Kd.C_drewN ?_ _) | (with_reducible refine Kd.C_drew ?_) | exact HR128_1.out)); (try have hcv50d := fun m_ => Kd.C_string (P := Try.prog) (A := A127_1) (c := c127_1) Try.underlying22 Try.underlying5 Try.underlying9 (Kd.C_drewN HR128_1.out m_)); have p129 : 0 ≤ (x11_2 : Int) := of_decide_eq_true (by first | (with_reducible assumption) | assumption); have q129 : x11_2 < (l1.length : Int) := of_decide_eq_true (by first | (with_reducible assumption) | assumption); obtain ⟨ad129, A129_1, c129_1, e129, hx129_0, hx129_1, hl129_1, hi129_1⟩ := at_T40 HR1.out x11_2 p129 q129; obtain rfl : ad119 = ad129 := (by injection e129); replace hx129_0 := (HB.out.cell (World.block_lt_of_cell? w _ hx129_0)).trans hx129_0; replace hx129_1 := (HB.out.cell (World.block_lt_of_cell? w _ hx129_1)).trans hx129_1; have HR129_1 := Aside0.mk hi129_1; have HC129_1 := Aside0.mk hl129_1; clear hi129_1 hl129_1; replace p129 := eq_true p129; replace q129 := eq_true q129; have hcv51 := Kd.C_string (P := Try.prog) (A := A129_1) (c := c129_1) Try.underlying22 Try.underlying5 Try.underlying9 (Kd.C_below HR129_1.out HB.out); (try have hcv51d := fun m_ => Kd.C_string (P := Try.prog) (A := A129_1) (c := c129_1) Try.underlying22 Try.underlying5 Try.underlying9 (Kd.C_drewN (Kd.C_below HR129_1.out HB.out) m_))))
                                          repeat (go_quiet (first | (go_at_call 26; (with_reducible refine (polyglotlaw07_in.calls a0 ((rd_T40 l1 x11_2).f0) false _ A30.out).mono ?_); rintro e w' ⟨rfl, ⟨nd, rfl⟩⟩; (try first | exact ⟨rfl, _, World.drewN_drewN _ _ _⟩ | exact ⟨rfl, _, Eq.trans (World.drewN_drewN _ _ _) (congrArg (World.drewN _) (Nat.add_assoc _ _ _))⟩); have p127 : 0 ≤ (x10_2 : Int) := of_decide_eq_true (by first | (with_reducible assumption) | assumption); have q127 : x10_2 < (t116.length : Int) := of_decide_eq_true (by first | (with_reducible assumption) | assumption); obtain ⟨ad127, A127_1, c127_1, e127, hx127_0, hx127_1, hl127_1, hi127_1⟩ := at_T40 (Kd.N_reads' HO_8.out).2.2 x10_2 p127 q127; cases e127; obtain ⟨ce127, hce127, hMe127, hcc127⟩ := Kd.N_get HO_8.out z40 x10_2 p127 (by first | exact q127 | exact of_decide_eq_true (by first | (with_reducible assumption) | assumption) | (have e_ := (Kd.N_reads' HO_8.out).1; omega)); obtain ⟨ua127_1, uc127_1, rfl, ul127_1, ge127_1⟩ := k40_openF hMe127; have hv127_1 := hcc127 1 _ rfl; rw [add_field _ _ 1 (by omega)] at hv127_1; replace hv127_1 := Option.some.inj (hv127_1.symm.trans hx127_1); injection hv127_1 with hva_ hvn_ hvc_; rw [hva_] at ge127_1; rw [hvc_] at ul127_1; have HL127_1 := Aside0.mk (show Kd.V (Kd.int .u8) 5 _ w.heap.size _ _ ((rd_T40 t116 x10_2).f1) from Kd.V_mk ul127_1 ge127_1); clear hva_ hvn_ hvc_ ge127_1 ul127_1; clear hcc127 hce127; have HR127_1 := Aside0.mk hi127_1; have HC127_1 := Aside0.mk hl127_1; clear hi127_1 hl127_1; replace p127 := eq_true p127; replace q127 := eq_true q127; have p128 : 0 ≤ (x10_2 : Int) := of_decide_eq_true (by first | (with_reducible assumption) | assumption); have q128 : x10_2 < (t116.length : Int) := of_decide_eq_true (by first | (with_reducible assumption) | assumption); obtain ⟨ad128, A128_1, c128_1, e128, hx128_0, hx128_1, hl128_1, hi128_1⟩ := at_T40 (Kd.N_reads' HO_8.out).2.2 x10_2 p128 q128; obtain rfl : ad127 = ad128 := (by injection e128); obtain ⟨ce128, hce128, hMe128, hcc128⟩ := Kd.N_get HO_8.out z40 x10_2 p128 (by first | exact q128 | exact of_decide_eq_true (by first | (with_reducible assumption) | assumption) | (have e_ := (Kd.N_reads' HO_8.out).1; omega)); obtain ⟨ua128_1, uc128_1, rfl, ul128_1, ge128_1⟩ := k40_openF hMe128; have hv128_1 := hcc128 1 _ rfl; rw [add_field _ _ 1 (by omega)] at hv128_1; replace hv128_1 := Option.some.inj (hv128_1.symm.trans hx128_1); injection hv128_1 with hva_ hvn_ hvc_; rw [hva_] at ge128_1; rw [hvc_] at ul128_1; have HL128_1 := Aside0.mk (show Kd.V (Kd.int .u8) 5 _ w.heap.size _ _ ((rd_T40 t116 x10_2).f1) from Kd.V_mk ul128_1 ge128_1); clear hva_ hvn_ hvc_ ge128_1 ul128_1; clear hcc128 hce128; have HR128_1 := Aside0.mk hi128_1; have HC128_1 := Aside0.mk hl128_1; clear hi128_1 hl128_1; replace p128 := eq_true p128; replace q128 := eq_true q128; have ea_ := Option.some.inj (hx127_1.symm.trans hx128_1); injection ea_ with ea_ en_ ec_; subst ea_; subst ec_; clear en_; have hcv50 := Kd.C_string (P := Try.prog) (A := A127_1) (c := c127_1) Try.underlying22 Try.underlying5 Try.underlying9 (by repeat (first | (with_reducible exact HR128_1.out) | (with_reducible refine Kd.C_alloc ?_ _) | (with_reducible refine Kd.C_drewN ?_ _) | (with_reducible refine Kd.C_drew ?_) | exact HR128_1.out)); (try have hcv50d := fun m_ => Kd.C_string (P := Try.prog) (A := A127_1) (c := c127_1) Try.underlying22 Try.underlying5 Try.underlying9 (Kd.C_drewN HR128_1.out m_)); have p129 : 0 ≤ (x11_2 : Int) := of_decide_eq_true (by first | (with_reducible assumption) | assumption); have q129 : x11_2 < (l1.length : Int) := of_decide_eq_true (by first | (with_reducible assumption) | assumption); obtain ⟨ad129, A129_1, c129_1, e129, hx129_0, hx129_1, hl129_1, hi129_1⟩ := at_T40 HR1.out x11_2 p129 q129; obtain rfl : ad119 = ad129 := (by injection e129); replace hx129_0 := (HB.out.cell (World.block_lt_of_cell? w _ hx129_0)).trans hx129_0; replace hx129_1 := (HB.out.cell (World.block_lt_of_cell? w _ hx129_1)).trans hx129_1; have HR129_1 := Aside0.mk hi129_1; have HC129_1 := Aside0.mk hl129_1; clear hi129_1 hl129_1; replace p129 := eq_true p129; replace q129 := eq_true q129; have hcv51 := Kd.C_string (P := Try.prog) (A := A129_1) (c := c129_1) Try.underlying22 Try.underlying5 Try.underlying9 (Kd.C_below HR129_1.out HB.out); (try have hcv51d := fun m_ => Kd.C_string (P := Try.prog) (A := A129_1) (c := c129_1) Try.underlying22 Try.underlying5 Try.underlying9 (Kd.C_drewN (Kd.C_below HR129_1.out HB.out) m_)))); try go_wp2_with (first | (go_at_call 26; (with_reducible refine (polyglotlaw07_in.calls a0 ((rd_T40 l1 x11_2).f0) false _ A30.out).mono ?_); rintro e w' ⟨rfl, ⟨nd, rfl⟩⟩; (try first | exact ⟨rfl, _, World.drewN_drewN _ _ _⟩ | exact ⟨rfl, _, Eq.trans (World.drewN_drewN _ _ _) (congrArg (World.drewN _) (Nat.add_assoc _ _ _))⟩); have p127 : 0 ≤ (x10_2 : Int) := of_decide_eq_true (by first | (with_reducible assumption) | assumption); have q127 : x10_2 < (t116.length : Int) := of_decide_eq_true (by first | (with_reducible assumption) | assumption); obtain ⟨ad127, A127_1, c127_1, e127, hx127_0, hx127_1, hl127_1, hi127_1⟩ := at_T40 (Kd.N_reads' HO_8.out).2.2 x10_2 p127 q127; cases e127; obtain ⟨ce127, hce127, hMe127, hcc127⟩ := Kd.N_get HO_8.out z40 x10_2 p127 (by first | exact q127 | exact of_decide_eq_true (by first | (with_reducible assumption) | assumption) | (have e_ := (Kd.N_reads' HO_8.out).1; omega)); obtain ⟨ua127_1, uc127_1, rfl, ul127_1, ge127_1⟩ := k40_openF hMe127; have hv127_1 := hcc127 1 _ rfl; rw [add_field _ _ 1 (by omega)] at hv127_1; replace hv127_1 := Option.some.inj (hv127_1.symm.trans hx127_1); injection hv127_1 with hva_ hvn_ hvc_; rw [hva_] at ge127_1; rw [hvc_] at ul127_1; have HL127_1 := Aside0.mk (show Kd.V (Kd.int .u8) 5 _ w.heap.size _ _ ((rd_T40 t116 x10_2).f1) from Kd.V_mk ul127_1 ge127_1); clear hva_ hvn_ hvc_ ge127_1 ul127_1; clear hcc127 hce127; have HR127_1 := Aside0.mk hi127_1; have HC127_1 := Aside0.mk hl127_1; clear hi127_1 hl127_1; replace p127 := eq_true p127; replace q127 := eq_true q127; have p128 : 0 ≤ (x10_2 : Int) := of_decide_eq_true (by first | (with_reducible assumption) | assumption); have q128 : x10_2 < (t116.length : Int) := of_decide_eq_true (by first | (with_reducible assumption) | assumption); obtain ⟨ad128, A128_1, c128_1, e128, hx128_0, hx128_1, hl128_1, hi128_1⟩ := at_T40 (Kd.N_reads' HO_8.out).2.2 x10_2 p128 q128; obtain rfl : ad127 = ad128 := (by injection e128); obtain ⟨ce128, hce128, hMe128, hcc128⟩ := Kd.N_get HO_8.out z40 x10_2 p128 (by first | exact q128 | exact of_decide_eq_true (by first | (with_reducible assumption) | assumption) | (have e_ := (Kd.N_reads' HO_8.out).1; omega)); obtain ⟨ua128_1, uc128_1, rfl, ul128_1, ge128_1⟩ := k40_openF hMe128; have hv128_1 := hcc128 1 _ rfl; rw [add_field _ _ 1 (by omega)] at hv128_1; replace hv128_1 := Option.some.inj (hv128_1.symm.trans hx128_1); injection hv128_1 with hva_ hvn_ hvc_; rw [hva_] at ge128_1; rw [hvc_] at ul128_1; have HL128_1 := Aside0.mk (show Kd.V (Kd.int .u8) 5 _ w.heap.size _ _ ((rd_T40 t116 x10_2).f1) from Kd.V_mk ul128_1 ge128_1); clear hva_ hvn_ hvc_ ge128_1 ul128_1; clear hcc128 hce128; have HR128_1 := Aside0.mk hi128_1; have HC128_1 := Aside0.mk hl128_1; clear hi128_1 hl128_1; replace p128 := eq_true p128; replace q128 := eq_true q128; have ea_ := Option.some.inj (hx127_1.symm.trans hx128_1); injection ea_ with ea_ en_ ec_; subst ea_; subst ec_; clear en_; have hcv50 := Kd.C_string (P := Try.prog) (A := A127_1) (c := c127_1) Try.underlying22 Try.underlying5 Try.underlying9 (by repeat (first | (with_reducible exact HR128_1.out) | (with_reducible refine Kd.C_alloc ?_ _) | (with_reducible refine Kd.C_drewN ?_ _) | (with_reducible refine Kd.C_drew ?_) | exact HR128_1.out)); (try have hcv50d := fun m_ => Kd.C_string (P := Try.prog) (A := A127_1) (c := c127_1) Try.underlying22 Try.underlying5 Try.underlying9 (Kd.C_drewN HR128_1.out m_)); have p129 : 0 ≤ (x11_2 : Int) := of_decide_eq_true (by first | (with_reducible assumption) | assumption); have q129 : x11_2 < (l1.length : Int) := of_decide_eq_true (by first | (with_reducible assumption) | assumption); obtain ⟨ad129, A129_1, c129_1, e129, hx129_0, hx129_1, hl129_1, hi129_1⟩ := at_T40 HR1.out x11_2 p129 q129; obtain rfl : ad119 = ad129 := (by injection e129); replace hx129_0 := (HB.out.cell (World.block_lt_of_cell? w _ hx129_0)).trans hx129_0; replace hx129_1 := (HB.out.cell (World.block_lt_of_cell? w _ hx129_1)).trans hx129_1; have HR129_1 := Aside0.mk hi129_1; have HC129_1 := Aside0.mk hl129_1; clear hi129_1 hl129_1; replace p129 := eq_true p129; replace q129 := eq_true q129; have hcv51 := Kd.C_string (P := Try.prog) (A := A129_1) (c := c129_1) Try.underlying22 Try.underlying5 Try.underlying9 (Kd.C_below HR129_1.out HB.out); (try have hcv51d := fun m_ => Kd.C_string (P := Try.prog) (A := A129_1) (c := c129_1) Try.underlying22 Try.underlying5 Try.underlying9 (Kd.C_drewN (Kd.C_below HR129_1.out HB.out) m_)))))
                                          go_roundg kj18
                                          case measure => have := HJ3.out; have := HK2.out; have := HJ18.out; omega
                                          case rel => exact ⟨(x9_2), (wrap64 (x10_2 + 1)), (wrap64 (x11_2 + 1)), (by first | rfl | (simp; done) | (simp [*]; done)), (by first | rfl | (simp; done) | (simp [*]; done)), (by first | rfl | (simp; done) | (simp [*]; done)), H', ⟨by have := HJ3.out; have := HK2.out; have := HJ18.out; omega⟩, ⟨by (with_reducible repeat (first | apply Kd.N_alloc | apply Kd.N_drewN | apply Kd.N_drew)); exact HO_7.out⟩, ⟨by (with_reducible repeat (first | apply Kd.N_alloc | apply Kd.N_drewN | apply Kd.N_drew)); exact HO_8.out⟩, ⟨by repeat (first | (with_reducible first | exact HB.out | apply below_alloc | apply pw_below_drewN | apply below_drew1) | exact HB.out)⟩⟩
                                      · rw [if_neg c49] at H
                                        have c49b0 : ((strOfNums ((rd_T40 t116 x10_2).f1)).toList == (strOfNums ((rd_T40 l1 x11_2).f1)).toList) = false := beq_eq_false_iff_ne.mpr c49
                                        have c49b1 : ((strOfNums ((rd_T40 t116 x10_2).f1)).toList != (strOfNums ((rd_T40 l1 x11_2).f1)).toList) = true := bne_iff_ne.mpr c49
                                        obtain rfl := Option.some.inj H
                                        as_aux_lemma =>
                                          go_wp2_with (first | (go_at_call 26; (with_reducible refine (polyglotlaw07_in.calls a0 ((rd_T40 l1 x11_2).f0) false _ A30.out).mono ?_); rintro e w' ⟨rfl, ⟨nd, rfl⟩⟩; (try first | exact ⟨rfl, _, World.drewN_drewN _ _ _⟩ | exact ⟨rfl, _, Eq.trans (World.drewN_drewN _ _ _) (congrArg (World.drewN _) (Nat.add_assoc _ _ _))⟩); have p127 : 0 ≤ (x10_2 : Int) := of_decide_eq_true (by first | (with_reducible assumption) | assumption); have q127 : x10_2 < (t116.length : Int) := of_decide_eq_true (by first | (with_reducible assumption) | assumption); obtain ⟨ad127, A127_1, c127_1, e127, hx127_0, hx127_1, hl127_1, hi127_1⟩ := at_T40 (Kd.N_reads' HO_8.out).2.2 x10_2 p127 q127; cases e127; obtain ⟨ce127, hce127, hMe127, hcc127⟩ := Kd.N_get HO_8.out z40 x10_2 p127 (by first | exact q127 | exact of_decide_eq_true (by first | (with_reducible assumption) | assumption) | (have e_ := (Kd.N_reads' HO_8.out).1; omega)); obtain ⟨ua127_1, uc127_1, rfl, ul127_1, ge127_1⟩ := k40_openF hMe127; have hv127_1 := hcc127 1 _ rfl; rw [add_field _ _ 1 (by omega)] at hv127_1; replace hv127_1 := Option.some.inj (hv127_1.symm.trans hx127_1); injection hv127_1 with hva_ hvn_ hvc_; rw [hva_] at ge127_1; rw [hvc_] at ul127_1; have HL127_1 := Aside0.mk (show Kd.V (Kd.int .u8) 5 _ w.heap.size _ _ ((rd_T40 t116 x10_2).f1) from Kd.V_mk ul127_1 ge127_1); clear hva_ hvn_ hvc_ ge127_1 ul127_1; clear hcc127 hce127; have HR127_1 := Aside0.mk hi127_1; have HC127_1 := Aside0.mk hl127_1; clear hi127_1 hl127_1; replace p127 := eq_true p127; replace q127 := eq_true q127; have p128 : 0 ≤ (x10_2 : Int) := of_decide_eq_true (by first | (with_reducible assumption) | assumption); have q128 : x10_2 < (t116.length : Int) := of_decide_eq_true (by first | (with_reducible assumption) | assumption); obtain ⟨ad128, A128_1, c128_1, e128, hx128_0, hx128_1, hl128_1, hi128_1⟩ := at_T40 (Kd.N_reads' HO_8.out).2.2 x10_2 p128 q128; obtain rfl : ad127 = ad128 := (by injection e128); obtain ⟨ce128, hce128, hMe128, hcc128⟩ := Kd.N_get HO_8.out z40 x10_2 p128 (by first | exact q128 | exact of_decide_eq_true (by first | (with_reducible assumption) | assumption) | (have e_ := (Kd.N_reads' HO_8.out).1; omega)); obtain ⟨ua128_1, uc128_1, rfl, ul128_1, ge128_1⟩ := k40_openF hMe128; have hv128_1 := hcc128 1 _ rfl; rw [add_field _ _ 1 (by omega)] at hv128_1; replace hv128_1 := Option.some.inj (hv128_1.symm.trans hx128_1); injection hv128_1 with hva_ hvn_ hvc_; rw [hva_] at ge128_1; rw [hvc_] at ul128_1; have HL128_1 := Aside0.mk (show Kd.V (Kd.int .u8) 5 _ w.heap.size _ _ ((rd_T40 t116 x10_2).f1) from Kd.V_mk ul128_1 ge128_1); clear hva_ hvn_ hvc_ ge128_1 ul128_1; clear hcc128 hce128; have HR128_1 := Aside0.mk hi128_1; have HC128_1 := Aside0.mk hl128_1; clear hi128_1 hl128_1; replace p128 := eq_true p128; replace q128 := eq_true q128; have ea_ := Option.some.inj (hx127_1.symm.trans hx128_1); injection ea_ with ea_ en_ ec_; subst ea_; subst ec_; clear en_; have hcv52 := Kd.C_string (P := Try.prog) (A := A127_1) (c := c127_1) Try.underlying22 Try.underlying5 Try.underlying9 (by repeat (first | (with_reducible exact HR128_1.out) | (with_reducible refine Kd.C_alloc ?_ _) | (with_reducible refine Kd.C_drewN ?_ _) | (with_reducible refine Kd.C_drew ?_) | exact HR128_1.out)); (try have hcv52d := fun m_ => Kd.C_string (P := Try.prog) (A := A127_1) (c := c127_1) Try.underlying22 Try.underlying5 Try.underlying9 (Kd.C_drewN HR128_1.out m_)); have p129 : 0 ≤ (x11_2 : Int) := of_decide_eq_true (by first | (with_reducible assumption) | assumption); have q129 : x11_2 < (l1.length : Int) := of_decide_eq_true (by first | (with_reducible assumption) | assumption); obtain ⟨ad129, A129_1, c129_1, e129, hx129_0, hx129_1, hl129_1, hi129_1⟩ := at_T40 HR1.out x11_2 p129 q129; obtain rfl : ad119 = ad129 := (by injection e129); replace hx129_0 := (HB.out.cell (World.block_lt_of_cell? w _ hx129_0)).trans hx129_0; replace hx129_1 := (HB.out.cell (World.block_lt_of_cell? w _ hx129_1)).trans hx129_1; have HR129_1 := Aside0.mk hi129_1; have HC129_1 := Aside0.mk hl129_1; clear hi129_1 hl129_1; replace p129 := eq_true p129; replace q129 := eq_true q129; have hcv53 := Kd.C_string (P := Try.prog) (A := A129_1) (c := c129_1) Try.underlying22 Try.underlying5 Try.underlying9 (Kd.C_below HR129_1.out HB.out); (try have hcv53d := fun m_ => Kd.C_string (P := Try.prog) (A := A129_1) (c := c129_1) Try.underlying22 Try.underlying5 Try.underlying9 (Kd.C_drewN (Kd.C_below HR129_1.out HB.out) m_))))
                                          repeat (go_quiet (first | (go_at_call 26; (with_reducible refine (polyglotlaw07_in.calls a0 ((rd_T40 l1 x11_2).f0) false _ A30.out).mono ?_); rintro e w' ⟨rfl, ⟨nd, rfl⟩⟩; (try first | exact ⟨rfl, _, World.drewN_drewN _ _ _⟩ | exact ⟨rfl, _, Eq.trans (World.drewN_drewN _ _ _) (congrArg (World.drewN _) (Nat.add_assoc _ _ _))⟩); have p127 : 0 ≤ (x10_2 : Int) := of_decide_eq_true (by first | (with_reducible assumption) | assumption); have q127 : x10_2 < (t116.length : Int) := of_decide_eq_true (by first | (with_reducible assumption) | assumption); obtain ⟨ad127, A127_1, c127_1, e127, hx127_0, hx127_1, hl127_1, hi127_1⟩ := at_T40 (Kd.N_reads' HO_8.out).2.2 x10_2 p127 q127; cases e127; obtain ⟨ce127, hce127, hMe127, hcc127⟩ := Kd.N_get HO_8.out z40 x10_2 p127 (by first | exact q127 | exact of_decide_eq_true (by first | (with_reducible assumption) | assumption) | (have e_ := (Kd.N_reads' HO_8.out).1; omega)); obtain ⟨ua127_1, uc127_1, rfl, ul127_1, ge127_1⟩ := k40_openF hMe127; have hv127_1 := hcc127 1 _ rfl; rw [add_field _ _ 1 (by omega)] at hv127_1; replace hv127_1 := Option.some.inj (hv127_1.symm.trans hx127_1); injection hv127_1 with hva_ hvn_ hvc_; rw [hva_] at ge127_1; rw [hvc_] at ul127_1; have HL127_1 := Aside0.mk (show Kd.V (Kd.int .u8) 5 _ w.heap.size _ _ ((rd_T40 t116 x10_2).f1) from Kd.V_mk ul127_1 ge127_1); clear hva_ hvn_ hvc_ ge127_1 ul127_1; clear hcc127 hce127; have HR127_1 := Aside0.mk hi127_1; have HC127_1 := Aside0.mk hl127_1; clear hi127_1 hl127_1; replace p127 := eq_true p127; replace q127 := eq_true q127; have p128 : 0 ≤ (x10_2 : Int) := of_decide_eq_true (by first | (with_reducible assumption) | assumption); have q128 : x10_2 < (t116.length : Int) := of_decide_eq_true (by first | (with_reducible assumption) | assumption); obtain ⟨ad128, A128_1, c128_1, e128, hx128_0, hx128_1, hl128_1, hi128_1⟩ := at_T40 (Kd.N_reads' HO_8.out).2.2 x10_2 p128 q128; obtain rfl : ad127 = ad128 := (by injection e128); obtain ⟨ce128, hce128, hMe128, hcc128⟩ := Kd.N_get HO_8.out z40 x10_2 p128 (by first | exact q128 | exact of_decide_eq_true (by first | (with_reducible assumption) | assumption) | (have e_ := (Kd.N_reads' HO_8.out).1; omega)); obtain ⟨ua128_1, uc128_1, rfl, ul128_1, ge128_1⟩ := k40_openF hMe128; have hv128_1 := hcc128 1 _ rfl; rw [add_field _ _ 1 (by omega)] at hv128_1; replace hv128_1 := Option.some.inj (hv128_1.symm.trans hx128_1); injection hv128_1 with hva_ hvn_ hvc_; rw [hva_] at ge128_1; rw [hvc_] at ul128_1; have HL128_1 := Aside0.mk (show Kd.V (Kd.int .u8) 5 _ w.heap.size _ _ ((rd_T40 t116 x10_2).f1) from Kd.V_mk ul128_1 ge128_1); clear hva_ hvn_ hvc_ ge128_1 ul128_1; clear hcc128 hce128; have HR128_1 := Aside0.mk hi128_1; have HC128_1 := Aside0.mk hl128_1; clear hi128_1 hl128_1; replace p128 := eq_true p128; replace q128 := eq_true q128; have ea_ := Option.some.inj (hx127_1.symm.trans hx128_1); injection ea_ with ea_ en_ ec_; subst ea_; subst ec_; clear en_; have hcv52 := Kd.C_string (P := Try.prog) (A := A127_1) (c := c127_1) Try.underlying22 Try.underlying5 Try.underlying9 (by repeat (first | (with_reducible exact HR128_1.out) | (with_reducible refine Kd.C_alloc ?_ _) | (with_reducible refine Kd.C_drewN ?_ _) | (with_reducible refine Kd.C_drew ?_) | exact HR128_1.out)); (try have hcv52d := fun m_ => Kd.C_string (P := Try.prog) (A := A127_1) (c := c127_1) Try.underlying22 Try.underlying5 Try.underlying9 (Kd.C_drewN HR128_1.out m_)); have p129 : 0 ≤ (x11_2 : Int) := of_decide_eq_true (by first | (with_reducible assumption) | assumption); have q129 : x11_2 < (l1.length : Int) := of_decide_eq_true (by first | (with_reducible assumption) | assumption); obtain ⟨ad129, A129_1, c129_1, e129, hx129_0, hx129_1, hl129_1, hi129_1⟩ := at_T40 HR1.out x11_2 p129 q129; obtain rfl : ad119 = ad129 := (by injection e129); replace hx129_0 := (HB.out.cell (World.block_lt_of_cell? w _ hx129_0)).trans hx129_0; replace hx129_1 := (HB.out.cell (World.block_lt_of_cell? w _ hx129_1)).trans hx129_1; have HR129_1 := Aside0.mk hi129_1; have HC129_1 := Aside0.mk hl129_1; clear hi129_1 hl129_1; replace p129 := eq_true p129; replace q129 := eq_true q129; have hcv53 := Kd.C_string (P := Try.prog) (A := A129_1) (c := c129_1) Try.underlying22 Try.underlying5 Try.underlying9 (Kd.C_below HR129_1.out HB.out); (try have hcv53d := fun m_ => Kd.C_string (P := Try.prog) (A := A129_1) (c := c129_1) Try.underlying22 Try.underlying5 Try.underlying9 (Kd.C_drewN (Kd.C_below HR129_1.out HB.out) m_)))); try go_wp2_with (first | (go_at_call 26; (with_reducible refine (polyglotlaw07_in.calls a0 ((rd_T40 l1 x11_2).f0) false _ A30.out).mono ?_); rintro e w' ⟨rfl, ⟨nd, rfl⟩⟩; (try first | exact ⟨rfl, _, World.drewN_drewN _ _ _⟩ | exact ⟨rfl, _, Eq.trans (World.drewN_drewN _ _ _) (congrArg (World.drewN _) (Nat.add_assoc _ _ _))⟩); have p127 : 0 ≤ (x10_2 : Int) := of_decide_eq_true (by first | (with_reducible assumption) | assumption); have q127 : x10_2 < (t116.length : Int) := of_decide_eq_true (by first | (with_reducible assumption) | assumption); obtain ⟨ad127, A127_1, c127_1, e127, hx127_0, hx127_1, hl127_1, hi127_1⟩ := at_T40 (Kd.N_reads' HO_8.out).2.2 x10_2 p127 q127; cases e127; obtain ⟨ce127, hce127, hMe127, hcc127⟩ := Kd.N_get HO_8.out z40 x10_2 p127 (by first | exact q127 | exact of_decide_eq_true (by first | (with_reducible assumption) | assumption) | (have e_ := (Kd.N_reads' HO_8.out).1; omega)); obtain ⟨ua127_1, uc127_1, rfl, ul127_1, ge127_1⟩ := k40_openF hMe127; have hv127_1 := hcc127 1 _ rfl; rw [add_field _ _ 1 (by omega)] at hv127_1; replace hv127_1 := Option.some.inj (hv127_1.symm.trans hx127_1); injection hv127_1 with hva_ hvn_ hvc_; rw [hva_] at ge127_1; rw [hvc_] at ul127_1; have HL127_1 := Aside0.mk (show Kd.V (Kd.int .u8) 5 _ w.heap.size _ _ ((rd_T40 t116 x10_2).f1) from Kd.V_mk ul127_1 ge127_1); clear hva_ hvn_ hvc_ ge127_1 ul127_1; clear hcc127 hce127; have HR127_1 := Aside0.mk hi127_1; have HC127_1 := Aside0.mk hl127_1; clear hi127_1 hl127_1; replace p127 := eq_true p127; replace q127 := eq_true q127; have p128 : 0 ≤ (x10_2 : Int) := of_decide_eq_true (by first | (with_reducible assumption) | assumption); have q128 : x10_2 < (t116.length : Int) := of_decide_eq_true (by first | (with_reducible assumption) | assumption); obtain ⟨ad128, A128_1, c128_1, e128, hx128_0, hx128_1, hl128_1, hi128_1⟩ := at_T40 (Kd.N_reads' HO_8.out).2.2 x10_2 p128 q128; obtain rfl : ad127 = ad128 := (by injection e128); obtain ⟨ce128, hce128, hMe128, hcc128⟩ := Kd.N_get HO_8.out z40 x10_2 p128 (by first | exact q128 | exact of_decide_eq_true (by first | (with_reducible assumption) | assumption) | (have e_ := (Kd.N_reads' HO_8.out).1; omega)); obtain ⟨ua128_1, uc128_1, rfl, ul128_1, ge128_1⟩ := k40_openF hMe128; have hv128_1 := hcc128 1 _ rfl; rw [add_field _ _ 1 (by omega)] at hv128_1; replace hv128_1 := Option.some.inj (hv128_1.symm.trans hx128_1); injection hv128_1 with hva_ hvn_ hvc_; rw [hva_] at ge128_1; rw [hvc_] at ul128_1; have HL128_1 := Aside0.mk (show Kd.V (Kd.int .u8) 5 _ w.heap.size _ _ ((rd_T40 t116 x10_2).f1) from Kd.V_mk ul128_1 ge128_1); clear hva_ hvn_ hvc_ ge128_1 ul128_1; clear hcc128 hce128; have HR128_1 := Aside0.mk hi128_1; have HC128_1 := Aside0.mk hl128_1; clear hi128_1 hl128_1; replace p128 := eq_true p128; replace q128 := eq_true q128; have ea_ := Option.some.inj (hx127_1.symm.trans hx128_1); injection ea_ with ea_ en_ ec_; subst ea_; subst ec_; clear en_; have hcv52 := Kd.C_string (P := Try.prog) (A := A127_1) (c := c127_1) Try.underlying22 Try.underlying5 Try.underlying9 (by repeat (first | (with_reducible exact HR128_1.out) | (with_reducible refine Kd.C_alloc ?_ _) | (with_reducible refine Kd.C_drewN ?_ _) | (with_reducible refine Kd.C_drew ?_) | exact HR128_1.out)); (try have hcv52d := fun m_ => Kd.C_string (P := Try.prog) (A := A127_1) (c := c127_1) Try.underlying22 Try.underlying5 Try.underlying9 (Kd.C_drewN HR128_1.out m_)); have p129 : 0 ≤ (x11_2 : Int) := of_decide_eq_true (by first | (with_reducible assumption) | assumption); have q129 : x11_2 < (l1.length : Int) := of_decide_eq_true (by first | (with_reducible assumption) | assumption); obtain ⟨ad129, A129_1, c129_1, e129, hx129_0, hx129_1, hl129_1, hi129_1⟩ := at_T40 HR1.out x11_2 p129 q129; obtain rfl : ad119 = ad129 := (by injection e129); replace hx129_0 := (HB.out.cell (World.block_lt_of_cell? w _ hx129_0)).trans hx129_0; replace hx129_1 := (HB.out.cell (World.block_lt_of_cell? w _ hx129_1)).trans hx129_1; have HR129_1 := Aside0.mk hi129_1; have HC129_1 := Aside0.mk hl129_1; clear hi129_1 hl129_1; replace p129 := eq_true p129; replace q129 := eq_true q129; have hcv53 := Kd.C_string (P := Try.prog) (A := A129_1) (c := c129_1) Try.underlying22 Try.underlying5 Try.underlying9 (Kd.C_below HR129_1.out HB.out); (try have hcv53d := fun m_ => Kd.C_string (P := Try.prog) (A := A129_1) (c := c129_1) Try.underlying22 Try.underlying5 Try.underlying9 (Kd.C_drewN (Kd.C_below HR129_1.out HB.out) m_)))))
                                          go_ret
                                          exact ⟨by first | rfl | (simp [errW_none, errW_some] <;> rfl) | (simp [*, errW_none, errW_some] <;> rfl), by repeat (first | (with_reducible first | exact HB.out | apply below_alloc | apply pw_below_drewN | apply below_drew1) | exact HB.out)⟩
                                    · rw [if_neg c48] at H
                                      exact absurd H (by simp)
                                  · rw [if_neg c47] at H
                                    exact absurd H (by simp)
                                · rw [if_neg c46] at H
                                  have c46b0 : (((rd_T40 t116 x10_2).f0) == ((rd_T40 l1 x11_2).f0)) = false := beq_eq_false_iff_ne.mpr c46
                                  have c46b1 : (((rd_T40 t116 x10_2).f0) != ((rd_T40 l1 x11_2).f0)) = true := bne_iff_ne.mpr c46
                                  obtain rfl := Option.some.inj H
                                  as_aux_lemma =>
                                    go_wp2_with (first | (go_at_call 26; (with_reducible refine (polyglotlaw07_in.calls a0 ((rd_T40 l1 x11_2).f0) false _ A30.out).mono ?_); rintro e w' ⟨rfl, ⟨nd, rfl⟩⟩; (try first | exact ⟨rfl, _, World.drewN_drewN _ _ _⟩ | exact ⟨rfl, _, Eq.trans (World.drewN_drewN _ _ _) (congrArg (World.drewN _) (Nat.add_assoc _ _ _))⟩); have p127 : 0 ≤ (x10_2 : Int) := of_decide_eq_true (by first | (with_reducible assumption) | assumption); have q127 : x10_2 < (t116.length : Int) := of_decide_eq_true (by first | (with_reducible assumption) | assumption); obtain ⟨ad127, A127_1, c127_1, e127, hx127_0, hx127_1, hl127_1, hi127_1⟩ := at_T40 (Kd.N_reads' HO_8.out).2.2 x10_2 p127 q127; cases e127; obtain ⟨ce127, hce127, hMe127, hcc127⟩ := Kd.N_get HO_8.out z40 x10_2 p127 (by first | exact q127 | exact of_decide_eq_true (by first | (with_reducible assumption) | assumption) | (have e_ := (Kd.N_reads' HO_8.out).1; omega)); obtain ⟨ua127_1, uc127_1, rfl, ul127_1, ge127_1⟩ := k40_openF hMe127; have hv127_1 := hcc127 1 _ rfl; rw [add_field _ _ 1 (by omega)] at hv127_1; replace hv127_1 := Option.some.inj (hv127_1.symm.trans hx127_1); injection hv127_1 with hva_ hvn_ hvc_; rw [hva_] at ge127_1; rw [hvc_] at ul127_1; have HL127_1 := Aside0.mk (show Kd.V (Kd.int .u8) 5 _ w.heap.size _ _ ((rd_T40 t116 x10_2).f1) from Kd.V_mk ul127_1 ge127_1); clear hva_ hvn_ hvc_ ge127_1 ul127_1; clear hcc127 hce127; have HR127_1 := Aside0.mk hi127_1; have HC127_1 := Aside0.mk hl127_1; clear hi127_1 hl127_1; replace p127 := eq_true p127; replace q127 := eq_true q127))
                                    repeat (go_quiet (first | (go_at_call 26; (with_reducible refine (polyglotlaw07_in.calls a0 ((rd_T40 l1 x11_2).f0) false _ A30.out).mono ?_); rintro e w' ⟨rfl, ⟨nd, rfl⟩⟩; (try first | exact ⟨rfl, _, World.drewN_drewN _ _ _⟩ | exact ⟨rfl, _, Eq.trans (World.drewN_drewN _ _ _) (congrArg (World.drewN _) (Nat.add_assoc _ _ _))⟩); have p127 : 0 ≤ (x10_2 : Int) := of_decide_eq_true (by first | (with_reducible assumption) | assumption); have q127 : x10_2 < (t116.length : Int) := of_decide_eq_true (by first | (with_reducible assumption) | assumption); obtain ⟨ad127, A127_1, c127_1, e127, hx127_0, hx127_1, hl127_1, hi127_1⟩ := at_T40 (Kd.N_reads' HO_8.out).2.2 x10_2 p127 q127; cases e127; obtain ⟨ce127, hce127, hMe127, hcc127⟩ := Kd.N_get HO_8.out z40 x10_2 p127 (by first | exact q127 | exact of_decide_eq_true (by first | (with_reducible assumption) | assumption) | (have e_ := (Kd.N_reads' HO_8.out).1; omega)); obtain ⟨ua127_1, uc127_1, rfl, ul127_1, ge127_1⟩ := k40_openF hMe127; have hv127_1 := hcc127 1 _ rfl; rw [add_field _ _ 1 (by omega)] at hv127_1; replace hv127_1 := Option.some.inj (hv127_1.symm.trans hx127_1); injection hv127_1 with hva_ hvn_ hvc_; rw [hva_] at ge127_1; rw [hvc_] at ul127_1; have HL127_1 := Aside0.mk (show Kd.V (Kd.int .u8) 5 _ w.heap.size _ _ ((rd_T40 t116 x10_2).f1) from Kd.V_mk ul127_1 ge127_1); clear hva_ hvn_ hvc_ ge127_1 ul127_1; clear hcc127 hce127; have HR127_1 := Aside0.mk hi127_1; have HC127_1 := Aside0.mk hl127_1; clear hi127_1 hl127_1; replace p127 := eq_true p127; replace q127 := eq_true q127)); try go_wp2_with (first | (go_at_call 26; (with_reducible refine (polyglotlaw07_in.calls a0 ((rd_T40 l1 x11_2).f0) false _ A30.out).mono ?_); rintro e w' ⟨rfl, ⟨nd, rfl⟩⟩; (try first | exact ⟨rfl, _, World.drewN_drewN _ _ _⟩ | exact ⟨rfl, _, Eq.trans (World.drewN_drewN _ _ _) (congrArg (World.drewN _) (Nat.add_assoc _ _ _))⟩); have p127 : 0 ≤ (x10_2 : Int) := of_decide_eq_true (by first | (with_reducible assumption) | assumption); have q127 : x10_2 < (t116.length : Int) := of_decide_eq_true (by first | (with_reducible assumption) | assumption); obtain ⟨ad127, A127_1, c127_1, e127, hx127_0, hx127_1, hl127_1, hi127_1⟩ := at_T40 (Kd.N_reads' HO_8.out).2.2 x10_2 p127 q127; cases e127; obtain ⟨ce127, hce127, hMe127, hcc127⟩ := Kd.N_get HO_8.out z40 x10_2 p127 (by first | exact q127 | exact of_decide_eq_true (by first | (with_reducible assumption) | assumption) | (have e_ := (Kd.N_reads' HO_8.out).1; omega)); obtain ⟨ua127_1, uc127_1, rfl, ul127_1, ge127_1⟩ := k40_openF hMe127; have hv127_1 := hcc127 1 _ rfl; rw [add_field _ _ 1 (by omega)] at hv127_1; replace hv127_1 := Option.some.inj (hv127_1.symm.trans hx127_1); injection hv127_1 with hva_ hvn_ hvc_; rw [hva_] at ge127_1; rw [hvc_] at ul127_1; have HL127_1 := Aside0.mk (show Kd.V (Kd.int .u8) 5 _ w.heap.size _ _ ((rd_T40 t116 x10_2).f1) from Kd.V_mk ul127_1 ge127_1); clear hva_ hvn_ hvc_ ge127_1 ul127_1; clear hcc127 hce127; have HR127_1 := Aside0.mk hi127_1; have HC127_1 := Aside0.mk hl127_1; clear hi127_1 hl127_1; replace p127 := eq_true p127; replace q127 := eq_true q127)))
                                    go_ret
                                    exact ⟨by first | rfl | (simp [errW_none, errW_some] <;> rfl) | (simp [*, errW_none, errW_some] <;> rfl), by repeat (first | (with_reducible first | exact HB.out | apply below_alloc | apply pw_below_drewN | apply below_drew1) | exact HB.out)⟩
                              · rw [if_neg c45] at H
                                exact absurd H (by simp)
                            · rw [if_neg c44] at H
                              exact absurd H (by simp)
                · rw [if_neg c18] at H
                  exact absurd H (by simp)
              · rw [if_neg c17] at H
                have c17b0 : decide (x11_2 < (l1.length : Int)) = false := decide_eq_false c17
                clear c17
                replace H := Option.bind_eq_some_iff.mp H
                obtain ⟨⟨t130, t131⟩, A540, H⟩ := H
                replace H : (if a2.toList = ([122, 111, 110, 101] : List UInt8) then (if (t131 != true) = true then (polyglotlaw07_KnownSplits.j3 k2 true) else (if t131 = true then ((known_Name.f t130).bind fun t132 => (if t132.toList = a2.toList then (polyglotlaw07_KnownSplits.j3 k2 false) else (polyglotlaw07_KnownSplits.j3 k2 true))) else (polyglotlaw07_KnownSplits.j3 k2 (t130 != 0)))) else (if a2.toList = ([108, 111, 97, 100] : List UInt8) then (if (t131 != true) = true then (polyglotlaw07_KnownSplits.j3 k2 true) else (if t131 = true then ((known_Name.f t130).bind fun t133 => (if t133.toList = a2.toList then (polyglotlaw07_KnownSplits.j3 k2 false) else (polyglotlaw07_KnownSplits.j3 k2 true))) else (polyglotlaw07_KnownSplits.j3 k2 (t130 != 0)))) else (if (t131 != (a2.toList == ([98, 117, 105, 108, 100] : List UInt8))) = true then (polyglotlaw07_KnownSplits.j3 k2 true) else (if t131 = true then ((known_Name.f t130).bind fun t134 => (if t134.toList = a2.toList then (polyglotlaw07_KnownSplits.j3 k2 false) else (polyglotlaw07_KnownSplits.j3 k2 true))) else (polyglotlaw07_KnownSplits.j3 k2 (t130 != 0)))))) = some r := H
                have A54 := Aside0.mk A540
                clear A540
                have HC55 := Aside0.mk H
                clear H
                go_upto_region 23 with (first | (go_at_call 28; (with_reducible refine (known_Tag.calls a2 t130 t131 _ A54.out).mono ?_); rintro e w56 ⟨rfl, hb⟩; have n0_ := Aside0.mk (Kd.N_below (by (with_reducible repeat (first | apply Kd.N_alloc | apply Kd.N_drewN | apply Kd.N_drew)); exact HO_7.out) hb); have n1_ := Aside0.mk (Kd.N_below (by (with_reducible repeat (first | apply Kd.N_alloc | apply Kd.N_drewN | apply Kd.N_drew)); exact HO_8.out) hb); have n2_ := Aside0.mk (below_step (by repeat (first | (with_reducible first | exact HB.out | apply below_alloc | apply pw_below_drewN | apply below_drew1) | exact HB.out)) hb); clear HO_7; clear HO_8; clear HB; have HO_7 := n0_; have HO_8 := n1_; have HB := n2_; clear n0_ n1_ n2_; (try clear hb); (try clear hb2); (try clear hk); (try clear hi)))
                repeat (go_quiet (first | (go_at_call 28; (with_reducible refine (known_Tag.calls a2 t130 t131 _ A54.out).mono ?_); rintro e w56 ⟨rfl, hb⟩; have n0_ := Aside0.mk (Kd.N_below (by (with_reducible repeat (first | apply Kd.N_alloc | apply Kd.N_drewN | apply Kd.N_drew)); exact HO_7.out) hb); have n1_ := Aside0.mk (Kd.N_below (by (with_reducible repeat (first | apply Kd.N_alloc | apply Kd.N_drewN | apply Kd.N_drew)); exact HO_8.out) hb); have n2_ := Aside0.mk (below_step (by repeat (first | (with_reducible first | exact HB.out | apply below_alloc | apply pw_below_drewN | apply below_drew1) | exact HB.out)) hb); clear HO_7; clear HO_8; clear HB; have HO_7 := n0_; have HO_8 := n1_; have HB := n2_; clear n0_ n1_ n2_; (try clear hb); (try clear hb2); (try clear hk); (try clear hi))); go_upto_region 23 with (first | (go_at_call 28; (with_reducible refine (known_Tag.calls a2 t130 t131 _ A54.out).mono ?_); rintro e w56 ⟨rfl, hb⟩; have n0_ := Aside0.mk (Kd.N_below (by (with_reducible repeat (first | apply Kd.N_alloc | apply Kd.N_drewN | apply Kd.N_drew)); exact HO_7.out) hb); have n1_ := Aside0.mk (Kd.N_below (by (with_reducible repeat (first | apply Kd.N_alloc | apply Kd.N_drewN | apply Kd.N_drew)); exact HO_8.out) hb); have n2_ := Aside0.mk (below_step (by repeat (first | (with_reducible first | exact HB.out | apply below_alloc | apply pw_below_drewN | apply below_drew1) | exact HB.out)) hb); clear HO_7; clear HO_8; clear HB; have HO_7 := n0_; have HO_8 := n1_; have HB := n2_; clear n0_ n1_ n2_; (try clear hb); (try clear hb2); (try clear hk); (try clear hi))))
                (try simp only [Act.put, List.setIfInBounds_toArray, List.set_cons_zero, List.set_cons_succ])
                go_cut [164] (fun v164 wc => ∃ (kq : Nat) (x164_54 : Bool), v164 = .bool x164_54 ∧ Aside0 (polyglotlaw07_KnownSplits.j3 kq x164_54 = some r) ∧ Aside0 (kq ≤ k2) ∧ Aside0 (Below w.heap.size w wc))
                case first =>
                  have H := HC55.out
                  clear HC55
                  by_cases c57 : a2.toList = ([122, 111, 110, 101] : List UInt8)
                  · rw [if_pos c57] at H
                    have c57b0 : (a2.toList == ([122, 111, 110, 101] : List UInt8)) = true := beq_iff_eq.mpr c57
                    have c57b1 : (a2.toList != ([122, 111, 110, 101] : List UInt8)) = false := bne_eq_false_iff_eq.mpr c57
                    clear c57
                    (first | rw [c57b0] | (simp only [i64_w, i32_w]; rw [c57b0]) | skip)
                    by_cases c58 : (t131 != true) = true
                    · rw [if_pos c58] at H
                      have c58b0 : (t131 != true) = true := c58
                      (try (have c58b1 : decide (t131 = true) = false := by simpa using c58))
                      (try (have c58b2 : (t131 == true) = false := by simpa using c58))
                      (try (have c58b3 : ¬ (t131 = true) := by simpa using c58))
                      clear c58
                      have H' := Aside0.mk H
                      clear H
                      as_aux_lemma =>
                        go_wp2
                        repeat (go_quiet (fail); try go_wp2)
                        go_meet
                        case rel => exact ⟨_, (true), (by first | rfl | (simp; done) | (simp [*]; done)), H', ⟨by have := HJ3.out; have := HK2.out; first | omega | exact Nat.le_refl _⟩, ⟨by repeat (first | (with_reducible first | exact HB.out | apply below_alloc | apply pw_below_drewN | apply below_drew1) | exact HB.out)⟩⟩
                    · rw [if_neg c58] at H
                      have c58b0 : (t131 != true) = false := by simpa using c58
                      (try (have c58b1 : decide (t131 = true) = true := by simpa using c58))
                      (try (have c58b2 : (t131 == true) = true := by simpa using c58))
                      clear c58
                      by_cases c59 : t131 = true
                      · subst c59
                        have H1 : ((known_Name.f t130).bind fun t132 => (if t132.toList = a2.toList then (polyglotlaw07_KnownSplits.j3 k2 false) else (polyglotlaw07_KnownSplits.j3 k2 true))) = some r := by rw [if_pos rfl] at H; exact H
                        clear H
                        have H := H1
                        clear H1
                        replace H := Option.bind_eq_some_iff.mp H
                        obtain ⟨t132, A600, H⟩ := H
                        replace H : (if t132.toList = a2.toList then (polyglotlaw07_KnownSplits.j3 k2 false) else (polyglotlaw07_KnownSplits.j3 k2 true)) = some r := H
                        have A60 := Aside0.mk A600
                        clear A600
                        by_cases c61 : t132.toList = a2.toList
                        · rw [if_pos c61] at H
                          have c61b0 : (t132.toList == a2.toList) = true := beq_iff_eq.mpr c61
                          have c61b1 : (t132.toList != a2.toList) = false := bne_eq_false_iff_eq.mpr c61
                          clear c61
                          have H' := Aside0.mk H
                          clear H
                          as_aux_lemma =>
                            go_wp2_with (first | (go_at_call 27; (with_reducible refine (known_Name.calls t130 t132 _ A60.out).mono ?_); rintro e w62 ⟨rfl, hb⟩; have n0_ := Aside0.mk (Kd.N_below (by (with_reducible repeat (first | apply Kd.N_alloc | apply Kd.N_drewN | apply Kd.N_drew)); exact HO_7.out) hb); have n1_ := Aside0.mk (Kd.N_below (by (with_reducible repeat (first | apply Kd.N_alloc | apply Kd.N_drewN | apply Kd.N_drew)); exact HO_8.out) hb); have n2_ := Aside0.mk (below_step (by repeat (first | (with_reducible first | exact HB.out | apply below_alloc | apply pw_below_drewN | apply below_drew1) | exact HB.out)) hb); clear HO_7; clear HO_8; clear HB; have HO_7 := n0_; have HO_8 := n1_; have HB := n2_; clear n0_ n1_ n2_; (try clear hb); (try clear hb2); (try clear hk); (try clear hi)))
                            repeat (go_quiet (first | (go_at_call 27; (with_reducible refine (known_Name.calls t130 t132 _ A60.out).mono ?_); rintro e w62 ⟨rfl, hb⟩; have n0_ := Aside0.mk (Kd.N_below (by (with_reducible repeat (first | apply Kd.N_alloc | apply Kd.N_drewN | apply Kd.N_drew)); exact HO_7.out) hb); have n1_ := Aside0.mk (Kd.N_below (by (with_reducible repeat (first | apply Kd.N_alloc | apply Kd.N_drewN | apply Kd.N_drew)); exact HO_8.out) hb); have n2_ := Aside0.mk (below_step (by repeat (first | (with_reducible first | exact HB.out | apply below_alloc | apply pw_below_drewN | apply below_drew1) | exact HB.out)) hb); clear HO_7; clear HO_8; clear HB; have HO_7 := n0_; have HO_8 := n1_; have HB := n2_; clear n0_ n1_ n2_; (try clear hb); (try clear hb2); (try clear hk); (try clear hi))); try go_wp2_with (first | (go_at_call 27; (with_reducible refine (known_Name.calls t130 t132 _ A60.out).mono ?_); rintro e w62 ⟨rfl, hb⟩; have n0_ := Aside0.mk (Kd.N_below (by (with_reducible repeat (first | apply Kd.N_alloc | apply Kd.N_drewN | apply Kd.N_drew)); exact HO_7.out) hb); have n1_ := Aside0.mk (Kd.N_below (by (with_reducible repeat (first | apply Kd.N_alloc | apply Kd.N_drewN | apply Kd.N_drew)); exact HO_8.out) hb); have n2_ := Aside0.mk (below_step (by repeat (first | (with_reducible first | exact HB.out | apply below_alloc | apply pw_below_drewN | apply below_drew1) | exact HB.out)) hb); clear HO_7; clear HO_8; clear HB; have HO_7 := n0_; have HO_8 := n1_; have HB := n2_; clear n0_ n1_ n2_; (try clear hb); (try clear hb2); (try clear hk); (try clear hi))))
                            go_meet
                            case rel => exact ⟨_, (false), (by first | rfl | (simp; done) | (simp [*]; done)), H', ⟨by have := HJ3.out; have := HK2.out; first | omega | exact Nat.le_refl _⟩, ⟨by repeat (first | (with_reducible first | exact HB.out | apply below_alloc | apply pw_below_drewN | apply below_drew1) | exact HB.out)⟩⟩
                        · rw [if_neg c61] at H
                          have c61b0 : (t132.toList == a2.toList) = false := beq_eq_false_iff_ne.mpr c61
                          have c61b1 : (t132.toList != a2.toList) = true := bne_iff_ne.mpr c61
                          have H' := Aside0.mk H
                          clear H
                          as_aux_lemma =>
                            go_wp2_with (first | (go_at_call 27; (with_reducible refine (known_Name.calls t130 t132 _ A60.out).mono ?_); rintro e w63 ⟨rfl, hb⟩; have n0_ := Aside0.mk (Kd.N_below (by (with_reducible repeat (first | apply Kd.N_alloc | apply Kd.N_drewN | apply Kd.N_drew)); exact HO_7.out) hb); have n1_ := Aside0.mk (Kd.N_below (by (with_reducible repeat (first | apply Kd.N_alloc | apply Kd.N_drewN | apply Kd.N_drew)); exact HO_8.out) hb); have n2_ := Aside0.mk (below_step (by repeat (first | (with_reducible first | exact HB.out | apply below_alloc | apply pw_below_drewN | apply below_drew1) | exact HB.out)) hb); clear HO_7; clear HO_8; clear HB; have HO_7 := n0_; have HO_8 := n1_; have HB := n2_; clear n0_ n1_ n2_; (try clear hb); (try clear hb2); (try clear hk); (try clear hi)))
                            repeat (go_quiet (first | (go_at_call 27; (with_reducible refine (known_Name.calls t130 t132 _ A60.out).mono ?_); rintro e w63 ⟨rfl, hb⟩; have n0_ := Aside0.mk (Kd.N_below (by (with_reducible repeat (first | apply Kd.N_alloc | apply Kd.N_drewN | apply Kd.N_drew)); exact HO_7.out) hb); have n1_ := Aside0.mk (Kd.N_below (by (with_reducible repeat (first | apply Kd.N_alloc | apply Kd.N_drewN | apply Kd.N_drew)); exact HO_8.out) hb); have n2_ := Aside0.mk (below_step (by repeat (first | (with_reducible first | exact HB.out | apply below_alloc | apply pw_below_drewN | apply below_drew1) | exact HB.out)) hb); clear HO_7; clear HO_8; clear HB; have HO_7 := n0_; have HO_8 := n1_; have HB := n2_; clear n0_ n1_ n2_; (try clear hb); (try clear hb2); (try clear hk); (try clear hi))); try go_wp2_with (first | (go_at_call 27; (with_reducible refine (known_Name.calls t130 t132 _ A60.out).mono ?_); rintro e w63 ⟨rfl, hb⟩; have n0_ := Aside0.mk (Kd.N_below (by (with_reducible repeat (first | apply Kd.N_alloc | apply Kd.N_drewN | apply Kd.N_drew)); exact HO_7.out) hb); have n1_ := Aside0.mk (Kd.N_below (by (with_reducible repeat (first | apply Kd.N_alloc | apply Kd.N_drewN | apply Kd.N_drew)); exact HO_8.out) hb); have n2_ := Aside0.mk (below_step (by repeat (first | (with_reducible first | exact HB.out | apply below_alloc | apply pw_below_drewN | apply below_drew1) | exact HB.out)) hb); clear HO_7; clear HO_8; clear HB; have HO_7 := n0_; have HO_8 := n1_; have HB := n2_; clear n0_ n1_ n2_; (try clear hb); (try clear hb2); (try clear hk); (try clear hi))))
                            go_meet
                            case rel => exact ⟨_, (true), (by first | rfl | (simp; done) | (simp [*]; done)), H', ⟨by have := HJ3.out; have := HK2.out; first | omega | exact Nat.le_refl _⟩, ⟨by repeat (first | (with_reducible first | exact HB.out | apply below_alloc | apply pw_below_drewN | apply below_drew1) | exact HB.out)⟩⟩
                      · replace c59 := Bool.eq_false_iff.mpr c59
                        subst c59
                        have H1 : (polyglotlaw07_KnownSplits.j3 k2 (t130 != 0)) = some r := by rw [if_neg (show ¬ (false = true) by decide)] at H; exact H
                        clear H
                        have H := H1
                        clear H1
                        have H' := Aside0.mk H
                        clear H
                        as_aux_lemma =>
                          go_wp2
                          repeat (go_quiet (fail); try go_wp2)
                          go_meet
                          case rel => exact ⟨_, ((t130 != 0)), (by first | rfl | (simp; done) | (simp [*]; done)), H', ⟨by have := HJ3.out; have := HK2.out; first | omega | exact Nat.le_refl _⟩, ⟨by repeat (first | (with_reducible first | exact HB.out | apply below_alloc | apply pw_below_drewN | apply below_drew1) | exact HB.out)⟩⟩
                  · rw [if_neg c57] at H
                    have c57b0 : (a2.toList == ([122, 111, 110, 101] : List UInt8)) = false := beq_eq_false_iff_ne.mpr c57
                    have c57b1 : (a2.toList != ([122, 111, 110, 101] : List UInt8)) = true := bne_iff_ne.mpr c57
                    (first | rw [c57b0] | (simp only [i64_w, i32_w]; rw [c57b0]) | skip)
                    by_cases c64 : a2.toList = ([108, 111, 97, 100] : List UInt8)
                    · rw [if_pos c64] at H
                      have c64b0 : (a2.toList == ([108, 111, 97, 100] : List UInt8)) = true := beq_iff_eq.mpr c64
                      have c64b1 : (a2.toList != ([108, 111, 97, 100] : List UInt8)) = false := bne_eq_false_iff_eq.mpr c64
                      clear c64
                      by_cases c65 : (t131 != true) = true
                      · rw [if_pos c65] at H
                        have c65b0 : (t131 != true) = true := c65
                        (try (have c65b1 : decide (t131 = true) = false := by simpa using c65))
                        (try (have c65b2 : (t131 == true) = false := by simpa using c65))
                        (try (have c65b3 : ¬ (t131 = true) := by simpa using c65))
                        clear c65
                        have H' := Aside0.mk H
                        clear H
                        as_aux_lemma =>
                          go_wp2
                          repeat (go_quiet (fail); try go_wp2)
                          go_meet
                          case rel => exact ⟨_, (true), (by first | rfl | (simp; done) | (simp [*]; done)), H', ⟨by have := HJ3.out; have := HK2.out; first | omega | exact Nat.le_refl _⟩, ⟨by repeat (first | (with_reducible first | exact HB.out | apply below_alloc | apply pw_below_drewN | apply below_drew1) | exact HB.out)⟩⟩
                      · rw [if_neg c65] at H
                        have c65b0 : (t131 != true) = false := by simpa using c65
                        (try (have c65b1 : decide (t131 = true) = true := by simpa using c65))
                        (try (have c65b2 : (t131 == true) = true := by simpa using c65))
                        clear c65
                        by_cases c66 : t131 = true
                        · subst c66
                          have H1 : ((known_Name.f t130).bind fun t133 => (if t133.toList = a2.toList then (polyglotlaw07_KnownSplits.j3 k2 false) else (polyglotlaw07_KnownSplits.j3 k2 true))) = some r := by rw [if_pos rfl] at H; exact H
                          clear H
                          have H := H1
                          clear H1
                          replace H := Option.bind_eq_some_iff.mp H
                          obtain ⟨t133, A670, H⟩ := H
                          replace H : (if t133.toList = a2.toList then (polyglotlaw07_KnownSplits.j3 k2 false) else (polyglotlaw07_KnownSplits.j3 k2 true)) = some r := H
                          have A67 := Aside0.mk A670
                          clear A670
                          by_cases c68 : t133.toList = a2.toList
                          · rw [if_pos c68] at H
                            have c68b0 : (t133.toList == a2.toList) = true := beq_iff_eq.mpr c68
                            have c68b1 : (t133.toList != a2.toList) = false := bne_eq_false_iff_eq.mpr c68
                            clear c68
                            have H' := Aside0.mk H
                            clear H
                            as_aux_lemma =>
                              go_wp2_with (first | (go_at_call 27; (with_reducible refine (known_Name.calls t130 t133 _ A67.out).mono ?_); rintro e w69 ⟨rfl, hb⟩; have n0_ := Aside0.mk (Kd.N_below (by (with_reducible repeat (first | apply Kd.N_alloc | apply Kd.N_drewN | apply Kd.N_drew)); exact HO_7.out) hb); have n1_ := Aside0.mk (Kd.N_below (by (with_reducible repeat (first | apply Kd.N_alloc | apply Kd.N_drewN | apply Kd.N_drew)); exact HO_8.out) hb); have n2_ := Aside0.mk (below_step (by repeat (first | (with_reducible first | exact HB.out | apply below_alloc | apply pw_below_drewN | apply below_drew1) | exact HB.out)) hb); clear HO_7; clear HO_8; clear HB; have HO_7 := n0_; have HO_8 := n1_; have HB := n2_; clear n0_ n1_ n2_; (try clear hb); (try clear hb2); (try clear hk); (try clear hi)))
                              repeat (go_quiet (first | (go_at_call 27; (with_reducible refine (known_Name.calls t130 t133 _ A67.out).mono ?_); rintro e w69 ⟨rfl, hb⟩; have n0_ := Aside0.mk (Kd.N_below (by (with_reducible repeat (first | apply Kd.N_alloc | apply Kd.N_drewN | apply Kd.N_drew)); exact HO_7.out) hb); have n1_ := Aside0.mk (Kd.N_below (by (with_reducible repeat (first | apply Kd.N_alloc | apply Kd.N_drewN | apply Kd.N_drew)); exact HO_8.out) hb); have n2_ := Aside0.mk (below_step (by repeat (first | (with_reducible first | exact HB.out | apply below_alloc | apply pw_below_drewN | apply below_drew1) | exact HB.out)) hb); clear HO_7; clear HO_8; clear HB; have HO_7 := n0_; have HO_8 := n1_; have HB := n2_; clear n0_ n1_ n2_; (try clear hb); (try clear hb2); (try clear hk); (try clear hi))); try go_wp2_with (first | (go_at_call 27; (with_reducible refine (known_Name.calls t130 t133 _ A67.out).mono ?_); rintro e w69 ⟨rfl, hb⟩; have n0_ := Aside0.mk (Kd.N_below (by (with_reducible repeat (first | apply Kd.N_alloc | apply Kd.N_drewN | apply Kd.N_drew)); exact HO_7.out) hb); have n1_ := Aside0.mk (Kd.N_below (by (with_reducible repeat (first | apply Kd.N_alloc | apply Kd.N_drewN | apply Kd.N_drew)); exact HO_8.out) hb); have n2_ := Aside0.mk (below_step (by repeat (first | (with_reducible first | exact HB.out | apply below_alloc | apply pw_below_drewN | apply below_drew1) | exact HB.out)) hb); clear HO_7; clear HO_8; clear HB; have HO_7 := n0_; have HO_8 := n1_; have HB := n2_; clear n0_ n1_ n2_; (try clear hb); (try clear hb2); (try clear hk); (try clear hi))))
                              go_meet
                              case rel => exact ⟨_, (false), (by first | rfl | (simp; done) | (simp [*]; done)), H', ⟨by have := HJ3.out; have := HK2.out; first | omega | exact Nat.le_refl _⟩, ⟨by repeat (first | (with_reducible first | exact HB.out | apply below_alloc | apply pw_below_drewN | apply below_drew1) | exact HB.out)⟩⟩
                          · rw [if_neg c68] at H
                            have c68b0 : (t133.toList == a2.toList) = false := beq_eq_false_iff_ne.mpr c68
                            have c68b1 : (t133.toList != a2.toList) = true := bne_iff_ne.mpr c68
                            have H' := Aside0.mk H
                            clear H
                            as_aux_lemma =>
                              go_wp2_with (first | (go_at_call 27; (with_reducible refine (known_Name.calls t130 t133 _ A67.out).mono ?_); rintro e w70 ⟨rfl, hb⟩; have n0_ := Aside0.mk (Kd.N_below (by (with_reducible repeat (first | apply Kd.N_alloc | apply Kd.N_drewN | apply Kd.N_drew)); exact HO_7.out) hb); have n1_ := Aside0.mk (Kd.N_below (by (with_reducible repeat (first | apply Kd.N_alloc | apply Kd.N_drewN | apply Kd.N_drew)); exact HO_8.out) hb); have n2_ := Aside0.mk (below_step (by repeat (first | (with_reducible first | exact HB.out | apply below_alloc | apply pw_below_drewN | apply below_drew1) | exact HB.out)) hb); clear HO_7; clear HO_8; clear HB; have HO_7 := n0_; have HO_8 := n1_; have HB := n2_; clear n0_ n1_ n2_; (try clear hb); (try clear hb2); (try clear hk); (try clear hi)))
                              repeat (go_quiet (first | (go_at_call 27; (with_reducible refine (known_Name.calls t130 t133 _ A67.out).mono ?_); rintro e w70 ⟨rfl, hb⟩; have n0_ := Aside0.mk (Kd.N_below (by (with_reducible repeat (first | apply Kd.N_alloc | apply Kd.N_drewN | apply Kd.N_drew)); exact HO_7.out) hb); have n1_ := Aside0.mk (Kd.N_below (by (with_reducible repeat (first | apply Kd.N_alloc | apply Kd.N_drewN | apply Kd.N_drew)); exact HO_8.out) hb); have n2_ := Aside0.mk (below_step (by repeat (first | (with_reducible first | exact HB.out | apply below_alloc | apply pw_below_drewN | apply below_drew1) | exact HB.out)) hb); clear HO_7; clear HO_8; clear HB; have HO_7 := n0_; have HO_8 := n1_; have HB := n2_; clear n0_ n1_ n2_; (try clear hb); (try clear hb2); (try clear hk); (try clear hi))); try go_wp2_with (first | (go_at_call 27; (with_reducible refine (known_Name.calls t130 t133 _ A67.out).mono ?_); rintro e w70 ⟨rfl, hb⟩; have n0_ := Aside0.mk (Kd.N_below (by (with_reducible repeat (first | apply Kd.N_alloc | apply Kd.N_drewN | apply Kd.N_drew)); exact HO_7.out) hb); have n1_ := Aside0.mk (Kd.N_below (by (with_reducible repeat (first | apply Kd.N_alloc | apply Kd.N_drewN | apply Kd.N_drew)); exact HO_8.out) hb); have n2_ := Aside0.mk (below_step (by repeat (first | (with_reducible first | exact HB.out | apply below_alloc | apply pw_below_drewN | apply below_drew1) | exact HB.out)) hb); clear HO_7; clear HO_8; clear HB; have HO_7 := n0_; have HO_8 := n1_; have HB := n2_; clear n0_ n1_ n2_; (try clear hb); (try clear hb2); (try clear hk); (try clear hi))))
                              go_meet
                              case rel => exact ⟨_, (true), (by first | rfl | (simp; done) | (simp [*]; done)), H', ⟨by have := HJ3.out; have := HK2.out; first | omega | exact Nat.le_refl _⟩, ⟨by repeat (first | (with_reducible first | exact HB.out | apply below_alloc | apply pw_below_drewN | apply below_drew1) | exact HB.out)⟩⟩
                        · replace c66 := Bool.eq_false_iff.mpr c66
                          subst c66
                          have H1 : (polyglotlaw07_KnownSplits.j3 k2 (t130 != 0)) = some r := by rw [if_neg (show ¬ (false = true) by decide)] at H; exact H
                          clear H
                          have H := H1
                          clear H1
                          have H' := Aside0.mk H
                          clear H
                          as_aux_lemma =>
                            go_wp2
                            repeat (go_quiet (fail); try go_wp2)
                            go_meet
                            case rel => exact ⟨_, ((t130 != 0)), (by first | rfl | (simp; done) | (simp [*]; done)), H', ⟨by have := HJ3.out; have := HK2.out; first | omega | exact Nat.le_refl _⟩, ⟨by repeat (first | (with_reducible first | exact HB.out | apply below_alloc | apply pw_below_drewN | apply below_drew1) | exact HB.out)⟩⟩
                    · rw [if_neg c64] at H
                      have c64b0 : (a2.toList == ([108, 111, 97, 100] : List UInt8)) = false := beq_eq_false_iff_ne.mpr c64
                      have c64b1 : (a2.toList != ([108, 111, 97, 100] : List UInt8)) = true := bne_iff_ne.mpr c64
                      by_cases c71 : (t131 != (a2.toList == ([98, 117, 105, 108, 100] : List UInt8))) = true
                      · rw [if_pos c71] at H
                        have c71b0 : (t131 != (a2.toList == ([98, 117, 105, 108, 100] : List UInt8))) = true := c71
                        (try (have c71b1 : decide (t131 = (a2.toList == ([98, 117, 105, 108, 100] : List UInt8))) = false := by simpa using c71))
                        (try (have c71b2 : (t131 == (a2.toList == ([98, 117, 105, 108, 100] : List UInt8))) = false := by simpa using c71))
                        (try (have c71b3 : ¬ (t131 = (a2.toList == ([98, 117, 105, 108, 100] : List UInt8))) := by simpa using c71))
                        clear c71
                        have H' := Aside0.mk H
                        clear H
                        as_aux_lemma =>
                          go_wp2
                          repeat (go_quiet (fail); try go_wp2)
                          go_meet
                          case rel => exact ⟨_, (true), (by first | rfl | (simp; done) | (simp [*]; done)), H', ⟨by have := HJ3.out; have := HK2.out; first | omega | exact Nat.le_refl _⟩, ⟨by repeat (first | (with_reducible first | exact HB.out | apply below_alloc | apply pw_below_drewN | apply below_drew1) | exact HB.out)⟩⟩
                      · rw [if_neg c71] at H
                        have c71b0 : (t131 != (a2.toList == ([98, 117, 105, 108, 100] : List UInt8))) = false := by simpa using c71
                        (try (have c71b1 : decide (t131 = (a2.toList == ([98, 117, 105, 108, 100] : List UInt8))) = true := by simpa using c71))
                        (try (have c71b2 : (t131 == (a2.toList == ([98, 117, 105, 108, 100] : List UInt8))) = true := by simpa using c71))
                        clear c71
                        by_cases c72 : t131 = true
                        · subst c72
                          have H1 : ((known_Name.f t130).bind fun t134 => (if t134.toList = a2.toList then (polyglotlaw07_KnownSplits.j3 k2 false) else (polyglotlaw07_KnownSplits.j3 k2 true))) = some r := by rw [if_pos rfl] at H; exact H
                          clear H
                          have H := H1
                          clear H1
                          replace H := Option.bind_eq_some_iff.mp H
                          obtain ⟨t134, A730, H⟩ := H
                          replace H : (if t134.toList = a2.toList then (polyglotlaw07_KnownSplits.j3 k2 false) else (polyglotlaw07_KnownSplits.j3 k2 true)) = some r := H
                          have A73 := Aside0.mk A730
                          clear A730
                          by_cases c74 : t134.toList = a2.toList
                          · rw [if_pos c74] at H
                            have c74b0 : (t134.toList == a2.toList) = true := beq_iff_eq.mpr c74
                            have c74b1 : (t134.toList != a2.toList) = false := bne_eq_false_iff_eq.mpr c74
                            clear c74
                            have H' := Aside0.mk H
                            clear H
                            as_aux_lemma =>
                              go_wp2_with (first | (go_at_call 27; (with_reducible refine (known_Name.calls t130 t134 _ A73.out).mono ?_); rintro e w75 ⟨rfl, hb⟩; have n0_ := Aside0.mk (Kd.N_below (by (with_reducible repeat (first | apply Kd.N_alloc | apply Kd.N_drewN | apply Kd.N_drew)); exact HO_7.out) hb); have n1_ := Aside0.mk (Kd.N_below (by (with_reducible repeat (first | apply Kd.N_alloc | apply Kd.N_drewN | apply Kd.N_drew)); exact HO_8.out) hb); have n2_ := Aside0.mk (below_step (by repeat (first | (with_reducible first | exact HB.out | apply below_alloc | apply pw_below_drewN | apply below_drew1) | exact HB.out)) hb); clear HO_7; clear HO_8; clear HB; have HO_7 := n0_; have HO_8 := n1_; have HB := n2_; clear n0_ n1_ n2_; (try clear hb); (try clear hb2); (try clear hk); (try clear hi)))
                              repeat (go_quiet (first | (go_at_call 27; (with_reducible refine (known_Name.calls t130 t134 _ A73.out).mono ?_); rintro e w75 ⟨rfl, hb⟩; have n0_ := Aside0.mk (Kd.N_below (by (with_reducible repeat (first | apply Kd.N_alloc | apply Kd.N_drewN | apply Kd.N_drew)); exact HO_7.out) hb); have n1_ := Aside0.mk (Kd.N_below (by (with_reducible repeat (first | apply Kd.N_alloc | apply Kd.N_drewN | apply Kd.N_drew)); exact HO_8.out) hb); have n2_ := Aside0.mk (below_step (by repeat (first | (with_reducible first | exact HB.out | apply below_alloc | apply pw_below_drewN | apply below_drew1) | exact HB.out)) hb); clear HO_7; clear HO_8; clear HB; have HO_7 := n0_; have HO_8 := n1_; have HB := n2_; clear n0_ n1_ n2_; (try clear hb); (try clear hb2); (try clear hk); (try clear hi))); try go_wp2_with (first | (go_at_call 27; (with_reducible refine (known_Name.calls t130 t134 _ A73.out).mono ?_); rintro e w75 ⟨rfl, hb⟩; have n0_ := Aside0.mk (Kd.N_below (by (with_reducible repeat (first | apply Kd.N_alloc | apply Kd.N_drewN | apply Kd.N_drew)); exact HO_7.out) hb); have n1_ := Aside0.mk (Kd.N_below (by (with_reducible repeat (first | apply Kd.N_alloc | apply Kd.N_drewN | apply Kd.N_drew)); exact HO_8.out) hb); have n2_ := Aside0.mk (below_step (by repeat (first | (with_reducible first | exact HB.out | apply below_alloc | apply pw_below_drewN | apply below_drew1) | exact HB.out)) hb); clear HO_7; clear HO_8; clear HB; have HO_7 := n0_; have HO_8 := n1_; have HB := n2_; clear n0_ n1_ n2_; (try clear hb); (try clear hb2); (try clear hk); (try clear hi))))
                              go_meet
                              case rel => exact ⟨_, (false), (by first | rfl | (simp; done) | (simp [*]; done)), H', ⟨by have := HJ3.out; have := HK2.out; first | omega | exact Nat.le_refl _⟩, ⟨by repeat (first | (with_reducible first | exact HB.out | apply below_alloc | apply pw_below_drewN | apply below_drew1) | exact HB.out)⟩⟩
                          · rw [if_neg c74] at H
                            have c74b0 : (t134.toList == a2.toList) = false := beq_eq_false_iff_ne.mpr c74
                            have c74b1 : (t134.toList != a2.toList) = true := bne_iff_ne.mpr c74
                            have H' := Aside0.mk H
                            clear H
                            as_aux_lemma =>
                              go_wp2_with (first | (go_at_call 27; (with_reducible refine (known_Name.calls t130 t134 _ A73.out).mono ?_); rintro e w76 ⟨rfl, hb⟩; have n0_ := Aside0.mk (Kd.N_below (by (with_reducible repeat (first | apply Kd.N_alloc | apply Kd.N_drewN | apply Kd.N_drew)); exact HO_7.out) hb); have n1_ := Aside0.mk (Kd.N_below (by (with_reducible repeat (first | apply Kd.N_alloc | apply Kd.N_drewN | apply Kd.N_drew)); exact HO_8.out) hb); have n2_ := Aside0.mk (below_step (by repeat (first | (with_reducible first | exact HB.out | apply below_alloc | apply pw_below_drewN | apply below_drew1) | exact HB.out)) hb); clear HO_7; clear HO_8; clear HB; have HO_7 := n0_; have HO_8 := n1_; have HB := n2_; clear n0_ n1_ n2_; (try clear hb); (try clear hb2); (try clear hk); (try clear hi)))
                              repeat (go_quiet (first | (go_at_call 27; (with_reducible refine (known_Name.calls t130 t134 _ A73.out).mono ?_); rintro e w76 ⟨rfl, hb⟩; have n0_ := Aside0.mk (Kd.N_below (by (with_reducible repeat (first | apply Kd.N_alloc | apply Kd.N_drewN | apply Kd.N_drew)); exact HO_7.out) hb); have n1_ := Aside0.mk (Kd.N_below (by (with_reducible repeat (first | apply Kd.N_alloc | apply Kd.N_drewN | apply Kd.N_drew)); exact HO_8.out) hb); have n2_ := Aside0.mk (below_step (by repeat (first | (with_reducible first | exact HB.out | apply below_alloc | apply pw_below_drewN | apply below_drew1) | exact HB.out)) hb); clear HO_7; clear HO_8; clear HB; have HO_7 := n0_; have HO_8 := n1_; have HB := n2_; clear n0_ n1_ n2_; (try clear hb); (try clear hb2); (try clear hk); (try clear hi))); try go_wp2_with (first | (go_at_call 27; (with_reducible refine (known_Name.calls t130 t134 _ A73.out).mono ?_); rintro e w76 ⟨rfl, hb⟩; have n0_ := Aside0.mk (Kd.N_below (by (with_reducible repeat (first | apply Kd.N_alloc | apply Kd.N_drewN | apply Kd.N_drew)); exact HO_7.out) hb); have n1_ := Aside0.mk (Kd.N_below (by (with_reducible repeat (first | apply Kd.N_alloc | apply Kd.N_drewN | apply Kd.N_drew)); exact HO_8.out) hb); have n2_ := Aside0.mk (below_step (by repeat (first | (with_reducible first | exact HB.out | apply below_alloc | apply pw_below_drewN | apply below_drew1) | exact HB.out)) hb); clear HO_7; clear HO_8; clear HB; have HO_7 := n0_; have HO_8 := n1_; have HB := n2_; clear n0_ n1_ n2_; (try clear hb); (try clear hb2); (try clear hk); (try clear hi))))
                              go_meet
                              case rel => exact ⟨_, (true), (by first | rfl | (simp; done) | (simp [*]; done)), H', ⟨by have := HJ3.out; have := HK2.out; first | omega | exact Nat.le_refl _⟩, ⟨by repeat (first | (with_reducible first | exact HB.out | apply below_alloc | apply pw_below_drewN | apply below_drew1) | exact HB.out)⟩⟩
                        · replace c72 := Bool.eq_false_iff.mpr c72
                          subst c72
                          have H1 : (polyglotlaw07_KnownSplits.j3 k2 (t130 != 0)) = some r := by rw [if_neg (show ¬ (false = true) by decide)] at H; exact H
                          clear H
                          have H := H1
                          clear H1
                          have H' := Aside0.mk H
                          clear H
                          as_aux_lemma =>
                            go_wp2
                            repeat (go_quiet (fail); try go_wp2)
                            go_meet
                            case rel => exact ⟨_, ((t130 != 0)), (by first | rfl | (simp; done) | (simp [*]; done)), H', ⟨by have := HJ3.out; have := HK2.out; first | omega | exact Nat.le_refl _⟩, ⟨by repeat (first | (with_reducible first | exact HB.out | apply below_alloc | apply pw_below_drewN | apply below_drew1) | exact HB.out)⟩⟩
                case rest =>
                  clear HC55
                  try clear c1
                  try clear p1
                  try clear q1
                  try clear hx1
                  try clear c2
                  try clear p2
                  try clear c3
                  try clear hcv3
                  try clear c4
                  try clear hcv4
                  try clear c5
                  try clear hcv5
                  try clear c6
                  try clear p6
                  try clear c7
                  try clear c11
                  try clear p11
                  try clear q11
                  try clear hx11
                  try clear c12
                  try clear c12b0
                  try clear c12b1
                  try clear p12
                  try clear q12
                  try clear hx12
                  try clear c17
                  try clear c17b0
                  try clear c18
                  try clear c18b0
                  try clear c22
                  try clear c22b0
                  try clear c22b1
                  try clear c22b2
                  try clear c24
                  try clear c24b0
                  try clear c25
                  try clear c25b0
                  try clear c29
                  try clear c31
                  try clear c32
                  try clear c32b0
                  try clear c33
                  try clear c33b0
                  try clear c34
                  try clear c34b0
                  try clear c35
                  try clear c35b0
                  try clear c35b1
                  try clear c36
                  try clear c36b0
                  try clear c37
                  try clear c37b0
                  try clear c38
                  try clear c38b0
                  try clear c38b1
                  try clear hcv39
                  try clear hcv40
                  try clear hcv41
                  try clear hcv42
                  try clear c43
                  try clear c43b0
                  try clear c44
                  try clear c44b0
                  try clear c45
                  try clear c45b0
                  try clear c46
                  try clear c46b0
                  try clear c46b1
                  try clear c47
                  try clear c47b0
                  try clear c48
                  try clear c48b0
                  try clear c49
                  try clear c49b0
                  try clear c49b1
                  try clear hcv50
                  try clear hcv51
                  try clear hcv52
                  try clear hcv53
                  try clear c57
                  try clear c57b0
                  try clear c57b1
                  try clear c58
                  try clear c58b0
                  try clear c58b1
                  try clear c58b2
                  try clear c59
                  try clear c61
                  try clear c61b0
                  try clear c61b1
                  try clear c64
                  try clear c64b0
                  try clear c64b1
                  try clear p64
                  try clear c65
                  try clear c65b0
                  try clear c65b1
                  try clear c65b2
                  try clear c66
                  try clear c68
                  try clear c68b0
                  try clear c68b1
                  try clear c71
                  try clear c71b0
                  try clear c71b1
                  try clear c71b2
                  try clear c72
                  try clear c74
                  try clear c74b0
                  try clear c74b1
                  try clear hx119_0
                  try clear hx119_1
                  try clear hx124_0
                  try clear hx124_1
                  try clear hx125_0
                  try clear hx125_1
                  try clear hx126_0
                  try clear hx126_1
                  try clear hx127_0
                  try clear hx127_1
                  try clear hx128_0
                  try clear hx128_1
                  try clear hx129_0
                  try clear hx129_1
                  try clear p1
                  try clear p11
                  try clear p119
                  try clear p124
                  try clear p125
                  try clear p126
                  try clear p127
                  try clear p128
                  try clear p129
                  try clear p2
                  try clear p6
                  try clear q1
                  try clear q11
                  try clear q119
                  try clear q124
                  try clear q125
                  try clear q126
                  try clear q127
                  try clear q128
                  try clear q129
                  obtain ⟨kq, x164_54, rfl, HA, HJ54, HB⟩ := hcut
                  cases kq with
                  | zero => exact absurd HA.out (by simp [polyglotlaw07_KnownSplits.j3])
                  | succ kj54 =>
                    have H := HA.out
                    clear HA
                    simp only [polyglotlaw07_KnownSplits.j3] at H
                    by_cases c77 : x164_54 = true
                    · subst c77
                      have H1 : (some false) = some r := by rw [if_pos rfl] at H; exact H
                      clear H
                      have H := H1
                      clear H1
                      obtain rfl := Option.some.inj H
                      as_aux_lemma =>
                        go_wp2
                        repeat (go_quiet (fail); try go_wp2)
                        go_ret
                        exact ⟨by first | rfl | (simp [errW_none, errW_some] <;> rfl) | (simp [*, errW_none, errW_some] <;> rfl), by repeat (first | (with_reducible first | exact HB.out | apply below_alloc | apply pw_below_drewN | apply below_drew1) | exact HB.out)⟩
                    · replace c77 := Bool.eq_false_iff.mpr c77
                      subst c77
                      have H1 : ((known_Name.f 32).bind fun t135 => (if t135.toList = ([122, 111, 110, 101] : List UInt8) then ((known_Name.f 33).bind fun t136 => (if t136.toList = ([108, 111, 97, 100] : List UInt8) then ((known_Name.f 34).bind fun t137 => (if t137.toList = ([98, 117, 105, 108, 100] : List UInt8) then ((polyglotlaw07_awake.f).bind fun t138 => (some t138)) else (some false))) else (some false))) else (some false))) = some r := by rw [if_neg (show ¬ (false = true) by decide)] at H; exact H
                      clear H
                      have H := H1
                      clear H1
                      replace H := Option.bind_eq_some_iff.mp H
                      obtain ⟨t135, A780, H⟩ := H
                      replace H : (if t135.toList = ([122, 111, 110, 101] : List UInt8) then ((known_Name.f 33).bind fun t136 => (if t136.toList = ([108, 111, 97, 100] : List UInt8) then ((known_Name.f 34).bind fun t137 => (if t137.toList = ([98, 117, 105, 108, 100] : List UInt8) then ((polyglotlaw07_awake.f).bind fun t138 => (some t138)) else (some false))) else (some false))) else (some false)) = some r := H
                      have A78 := Aside0.mk A780
                      clear A780
                      by_cases c79 : t135.toList = ([122, 111, 110, 101] : List UInt8)
                      · rw [if_pos c79] at H
                        have c79b0 : (t135.toList == ([122, 111, 110, 101] : List UInt8)) = true := beq_iff_eq.mpr c79
                        have c79b1 : (t135.toList != ([122, 111, 110, 101] : List UInt8)) = false := bne_eq_false_iff_eq.mpr c79
                        clear c79
                        replace H := Option.bind_eq_some_iff.mp H
                        obtain ⟨t136, A800, H⟩ := H
                        replace H : (if t136.toList = ([108, 111, 97, 100] : List UInt8) then ((known_Name.f 34).bind fun t137 => (if t137.toList = ([98, 117, 105, 108, 100] : List UInt8) then ((polyglotlaw07_awake.f).bind fun t138 => (some t138)) else (some false))) else (some false)) = some r := H
                        have A80 := Aside0.mk A800
                        clear A800
                        by_cases c81 : t136.toList = ([108, 111, 97, 100] : List UInt8)
                        · rw [if_pos c81] at H
                          have c81b0 : (t136.toList == ([108, 111, 97, 100] : List UInt8)) = true := beq_iff_eq.mpr c81
                          have c81b1 : (t136.toList != ([108, 111, 97, 100] : List UInt8)) = false := bne_eq_false_iff_eq.mpr c81
                          clear c81
                          replace H := Option.bind_eq_some_iff.mp H
                          obtain ⟨t137, A820, H⟩ := H
                          replace H : (if t137.toList = ([98, 117, 105, 108, 100] : List UInt8) then ((polyglotlaw07_awake.f).bind fun t138 => (some t138)) else (some false)) = some r := H
                          have A82 := Aside0.mk A820
                          clear A820
                          by_cases c83 : t137.toList = ([98, 117, 105, 108, 100] : List UInt8)
                          · rw [if_pos c83] at H
                            have c83b0 : (t137.toList == ([98, 117, 105, 108, 100] : List UInt8)) = true := beq_iff_eq.mpr c83
                            have c83b1 : (t137.toList != ([98, 117, 105, 108, 100] : List UInt8)) = false := bne_eq_false_iff_eq.mpr c83
                            clear c83
                            replace H := Option.bind_eq_some_iff.mp H
                            obtain ⟨t138, A840, H⟩ := H
                            replace H : (some t138) = some r := H
                            have A84 := Aside0.mk A840
                            clear A840
                            obtain rfl := Option.some.inj H
                            as_aux_lemma =>
                              go_wp2_with (first | (go_at_call 27; (with_reducible refine (known_Name.calls 32 t135 _ A78.out).mono ?_); rintro e w85 ⟨rfl, hb⟩; have n0_ := Aside0.mk (below_step (by repeat (first | (with_reducible first | exact HB.out | apply below_alloc | apply pw_below_drewN | apply below_drew1) | exact HB.out)) hb); clear HB; have HB := n0_; clear n0_; (try clear hb); (try clear hb2); (try clear hk); (try clear hi)) | (go_at_call 27; (with_reducible refine (known_Name.calls 33 t136 _ A80.out).mono ?_); rintro e w86 ⟨rfl, hb⟩; have n0_ := Aside0.mk (below_step (by repeat (first | (with_reducible first | exact HB.out | apply below_alloc | apply pw_below_drewN | apply below_drew1) | exact HB.out)) hb); clear HB; have HB := n0_; clear n0_; (try clear hb); (try clear hb2); (try clear hk); (try clear hi)) | (go_at_call 27; (with_reducible refine (known_Name.calls 34 t137 _ A82.out).mono ?_); rintro e w87 ⟨rfl, hb⟩; have n0_ := Aside0.mk (below_step (by repeat (first | (with_reducible first | exact HB.out | apply below_alloc | apply pw_below_drewN | apply below_drew1) | exact HB.out)) hb); clear HB; have HB := n0_; clear n0_; (try clear hb); (try clear hb2); (try clear hk); (try clear hi)) | (go_at_call 22; (with_reducible refine (polyglotlaw07_awake.calls  t138 _ A84.out).mono ?_); rintro e w88 ⟨rfl, hb⟩; have n0_ := Aside0.mk (below_step (by repeat (first | (with_reducible first | exact HB.out | apply below_alloc | apply pw_below_drewN | apply below_drew1) | exact HB.out)) hb); clear HB; have HB := n0_; clear n0_; (try clear hb); (try clear hb2); (try clear hk); (try clear hi)))
                              repeat (go_quiet (first | (go_at_call 27; (with_reducible refine (known_Name.calls 32 t135 _ A78.out).mono ?_); rintro e w85 ⟨rfl, hb⟩; have n0_ := Aside0.mk (below_step (by repeat (first | (with_reducible first | exact HB.out | apply below_alloc | apply pw_below_drewN | apply below_drew1) | exact HB.out)) hb); clear HB; have HB := n0_; clear n0_; (try clear hb); (try clear hb2); (try clear hk); (try clear hi)) | (go_at_call 27; (with_reducible refine (known_Name.calls 33 t136 _ A80.out).mono ?_); rintro e w86 ⟨rfl, hb⟩; have n0_ := Aside0.mk (below_step (by repeat (first | (with_reducible first | exact HB.out | apply below_alloc | apply pw_below_drewN | apply below_drew1) | exact HB.out)) hb); clear HB; have HB := n0_; clear n0_; (try clear hb); (try clear hb2); (try clear hk); (try clear hi)) | (go_at_call 27; (with_reducible refine (known_Name.calls 34 t137 _ A82.out).mono ?_); rintro e w87 ⟨rfl, hb⟩; have n0_ := Aside0.mk (below_step (by repeat (first | (with_reducible first | exact HB.out | apply below_alloc | apply pw_below_drewN | apply below_drew1) | exact HB.out)) hb); clear HB; have HB := n0_; clear n0_; (try clear hb); (try clear hb2); (try clear hk); (try clear hi)) | (go_at_call 22; (with_reducible refine (polyglotlaw07_awake.calls  t138 _ A84.out).mono ?_); rintro e w88 ⟨rfl, hb⟩; have n0_ := Aside0.mk (below_step (by repeat (first | (with_reducible first | exact HB.out | apply below_alloc | apply pw_below_drewN | apply below_drew1) | exact HB.out)) hb); clear HB; have HB := n0_; clear n0_; (try clear hb); (try clear hb2); (try clear hk); (try clear hi))); try go_wp2_with (first | (go_at_call 27; (with_reducible refine (known_Name.calls 32 t135 _ A78.out).mono ?_); rintro e w85 ⟨rfl, hb⟩; have n0_ := Aside0.mk (below_step (by repeat (first | (with_reducible first | exact HB.out | apply below_alloc | apply pw_below_drewN | apply below_drew1) | exact HB.out)) hb); clear HB; have HB := n0_; clear n0_; (try clear hb); (try clear hb2); (try clear hk); (try clear hi)) | (go_at_call 27; (with_reducible refine (known_Name.calls 33 t136 _ A80.out).mono ?_); rintro e w86 ⟨rfl, hb⟩; have n0_ := Aside0.mk (below_step (by repeat (first | (with_reducible first | exact HB.out | apply below_alloc | apply pw_below_drewN | apply below_drew1) | exact HB.out)) hb); clear HB; have HB := n0_; clear n0_; (try clear hb); (try clear hb2); (try clear hk); (try clear hi)) | (go_at_call 27; (with_reducible refine (known_Name.calls 34 t137 _ A82.out).mono ?_); rintro e w87 ⟨rfl, hb⟩; have n0_ := Aside0.mk (below_step (by repeat (first | (with_reducible first | exact HB.out | apply below_alloc | apply pw_below_drewN | apply below_drew1) | exact HB.out)) hb); clear HB; have HB := n0_; clear n0_; (try clear hb); (try clear hb2); (try clear hk); (try clear hi)) | (go_at_call 22; (with_reducible refine (polyglotlaw07_awake.calls  t138 _ A84.out).mono ?_); rintro e w88 ⟨rfl, hb⟩; have n0_ := Aside0.mk (below_step (by repeat (first | (with_reducible first | exact HB.out | apply below_alloc | apply pw_below_drewN | apply below_drew1) | exact HB.out)) hb); clear HB; have HB := n0_; clear n0_; (try clear hb); (try clear hb2); (try clear hk); (try clear hi))))
                              go_ret
                              exact ⟨by first | rfl | (simp [errW_none, errW_some] <;> rfl) | (simp [*, errW_none, errW_some] <;> rfl), by repeat (first | (with_reducible first | exact HB.out | apply below_alloc | apply pw_below_drewN | apply below_drew1) | exact HB.out)⟩
                          · rw [if_neg c83] at H
                            have c83b0 : (t137.toList == ([98, 117, 105, 108, 100] : List UInt8)) = false := beq_eq_false_iff_ne.mpr c83
                            have c83b1 : (t137.toList != ([98, 117, 105, 108, 100] : List UInt8)) = true := bne_iff_ne.mpr c83
                            obtain rfl := Option.some.inj H
                            as_aux_lemma =>
                              go_wp2_with (first | (go_at_call 27; (with_reducible refine (known_Name.calls 32 t135 _ A78.out).mono ?_); rintro e w89 ⟨rfl, hb⟩; have n0_ := Aside0.mk (below_step (by repeat (first | (with_reducible first | exact HB.out | apply below_alloc | apply pw_below_drewN | apply below_drew1) | exact HB.out)) hb); clear HB; have HB := n0_; clear n0_; (try clear hb); (try clear hb2); (try clear hk); (try clear hi)) | (go_at_call 27; (with_reducible refine (known_Name.calls 33 t136 _ A80.out).mono ?_); rintro e w90 ⟨rfl, hb⟩; have n0_ := Aside0.mk (below_step (by repeat (first | (with_reducible first | exact HB.out | apply below_alloc | apply pw_below_drewN | apply below_drew1) | exact HB.out)) hb); clear HB; have HB := n0_; clear n0_; (try clear hb); (try clear hb2); (try clear hk); (try clear hi)) | (go_at_call 27; (with_reducible refine (known_Name.calls 34 t137 _ A82.out).mono ?_); rintro e w91 ⟨rfl, hb⟩; have n0_ := Aside0.mk (below_step (by repeat (first | (with_reducible first | exact HB.out | apply below_alloc | apply pw_below_drewN | apply below_drew1) | exact HB.out)) hb); clear HB; have HB := n0_; clear n0_; (try clear hb); (try clear hb2); (try clear hk); (try clear hi)))
                              repeat (go_quiet (first | (go_at_call 27; (with_reducible refine (known_Name.calls 32 t135 _ A78.out).mono ?_); rintro e w89 ⟨rfl, hb⟩; have n0_ := Aside0.mk (below_step (by repeat (first | (with_reducible first | exact HB.out | apply below_alloc | apply pw_below_drewN | apply below_drew1) | exact HB.out)) hb); clear HB; have HB := n0_; clear n0_; (try clear hb); (try clear hb2); (try clear hk); (try clear hi)) | (go_at_call 27; (with_reducible refine (known_Name.calls 33 t136 _ A80.out).mono ?_); rintro e w90 ⟨rfl, hb⟩; have n0_ := Aside0.mk (below_step (by repeat (first | (with_reducible first | exact HB.out | apply below_alloc | apply pw_below_drewN | apply below_drew1) | exact HB.out)) hb); clear HB; have HB := n0_; clear n0_; (try clear hb); (try clear hb2); (try clear hk); (try clear hi)) | (go_at_call 27; (with_reducible refine (known_Name.calls 34 t137 _ A82.out).mono ?_); rintro e w91 ⟨rfl, hb⟩; have n0_ := Aside0.mk (below_step (by repeat (first | (with_reducible first | exact HB.out | apply below_alloc | apply pw_below_drewN | apply below_drew1) | exact HB.out)) hb); clear HB; have HB := n0_; clear n0_; (try clear hb); (try clear hb2); (try clear hk); (try clear hi))); try go_wp2_with (first | (go_at_call 27; (with_reducible refine (known_Name.calls 32 t135 _ A78.out).mono ?_); rintro e w89 ⟨rfl, hb⟩; have n0_ := Aside0.mk (below_step (by repeat (first | (with_reducible first | exact HB.out | apply below_alloc | apply pw_below_drewN | apply below_drew1) | exact HB.out)) hb); clear HB; have HB := n0_; clear n0_; (try clear hb); (try clear hb2); (try clear hk); (try clear hi)) | (go_at_call 27; (with_reducible refine (known_Name.calls 33 t136 _ A80.out).mono ?_); rintro e w90 ⟨rfl, hb⟩; have n0_ := Aside0.mk (below_step (by repeat (first | (with_reducible first | exact HB.out | apply below_alloc | apply pw_below_drewN | apply below_drew1) | exact HB.out)) hb); clear HB; have HB := n0_; clear n0_; (try clear hb); (try clear hb2); (try clear hk); (try clear hi)) | (go_at_call 27; (with_reducible refine (known_Name.calls 34 t137 _ A82.out).mono ?_); rintro e w91 ⟨rfl, hb⟩; have n0_ := Aside0.mk (below_step (by repeat (first | (with_reducible first | exact HB.out | apply below_alloc | apply pw_below_drewN | apply below_drew1) | exact HB.out)) hb); clear HB; have HB := n0_; clear n0_; (try clear hb); (try clear hb2); (try clear hk); (try clear hi))))
                              go_ret
                              exact ⟨by first | rfl | (simp [errW_none, errW_some] <;> rfl) | (simp [*, errW_none, errW_some] <;> rfl), by repeat (first | (with_reducible first | exact HB.out | apply below_alloc | apply pw_below_drewN | apply below_drew1) | exact HB.out)⟩
                        · rw [if_neg c81] at H
                          have c81b0 : (t136.toList == ([108, 111, 97, 100] : List UInt8)) = false := beq_eq_false_iff_ne.mpr c81
                          have c81b1 : (t136.toList != ([108, 111, 97, 100] : List UInt8)) = true := bne_iff_ne.mpr c81
                          obtain rfl := Option.some.inj H
                          as_aux_lemma =>
                            go_wp2_with (first | (go_at_call 27; (with_reducible refine (known_Name.calls 32 t135 _ A78.out).mono ?_); rintro e w92 ⟨rfl, hb⟩; have n0_ := Aside0.mk (below_step (by repeat (first | (with_reducible first | exact HB.out | apply below_alloc | apply pw_below_drewN | apply below_drew1) | exact HB.out)) hb); clear HB; have HB := n0_; clear n0_; (try clear hb); (try clear hb2); (try clear hk); (try clear hi)) | (go_at_call 27; (with_reducible refine (known_Name.calls 33 t136 _ A80.out).mono ?_); rintro e w93 ⟨rfl, hb⟩; have n0_ := Aside0.mk (below_step (by repeat (first | (with_reducible first | exact HB.out | apply below_alloc | apply pw_below_drewN | apply below_drew1) | exact HB.out)) hb); clear HB; have HB := n0_; clear n0_; (try clear hb); (try clear hb2); (try clear hk); (try clear hi)))
                            repeat (go_quiet (first | (go_at_call 27; (with_reducible refine (known_Name.calls 32 t135 _ A78.out).mono ?_); rintro e w92 ⟨rfl, hb⟩; have n0_ := Aside0.mk (below_step (by repeat (first | (with_reducible first | exact HB.out | apply below_alloc | apply pw_below_drewN | apply below_drew1) | exact HB.out)) hb); clear HB; have HB := n0_; clear n0_; (try clear hb); (try clear hb2); (try clear hk); (try clear hi)) | (go_at_call 27; (with_reducible refine (known_Name.calls 33 t136 _ A80.out).mono ?_); rintro e w93 ⟨rfl, hb⟩; have n0_ := Aside0.mk (below_step (by repeat (first | (with_reducible first | exact HB.out | apply below_alloc | apply pw_below_drewN | apply below_drew1) | exact HB.out)) hb); clear HB; have HB := n0_; clear n0_; (try clear hb); (try clear hb2); (try clear hk); (try clear hi))); try go_wp2_with (first | (go_at_call 27; (with_reducible refine (known_Name.calls 32 t135 _ A78.out).mono ?_); rintro e w92 ⟨rfl, hb⟩; have n0_ := Aside0.mk (below_step (by repeat (first | (with_reducible first | exact HB.out | apply below_alloc | apply pw_below_drewN | apply below_drew1) | exact HB.out)) hb); clear HB; have HB := n0_; clear n0_; (try clear hb); (try clear hb2); (try clear hk); (try clear hi)) | (go_at_call 27; (with_reducible refine (known_Name.calls 33 t136 _ A80.out).mono ?_); rintro e w93 ⟨rfl, hb⟩; have n0_ := Aside0.mk (below_step (by repeat (first | (with_reducible first | exact HB.out | apply below_alloc | apply pw_below_drewN | apply below_drew1) | exact HB.out)) hb); clear HB; have HB := n0_; clear n0_; (try clear hb); (try clear hb2); (try clear hk); (try clear hi))))
                            go_ret
                            exact ⟨by first | rfl | (simp [errW_none, errW_some] <;> rfl) | (simp [*, errW_none, errW_some] <;> rfl), by repeat (first | (with_reducible first | exact HB.out | apply below_alloc | apply pw_below_drewN | apply below_drew1) | exact HB.out)⟩
                      · rw [if_neg c79] at H
                        have c79b0 : (t135.toList == ([122, 111, 110, 101] : List UInt8)) = false := beq_eq_false_iff_ne.mpr c79
                        have c79b1 : (t135.toList != ([122, 111, 110, 101] : List UInt8)) = true := bne_iff_ne.mpr c79
                        obtain rfl := Option.some.inj H
                        as_aux_lemma =>
                          go_wp2_with (first | (go_at_call 27; (with_reducible refine (known_Name.calls 32 t135 _ A78.out).mono ?_); rintro e w94 ⟨rfl, hb⟩; have n0_ := Aside0.mk (below_step (by repeat (first | (with_reducible first | exact HB.out | apply below_alloc | apply pw_below_drewN | apply below_drew1) | exact HB.out)) hb); clear HB; have HB := n0_; clear n0_; (try clear hb); (try clear hb2); (try clear hk); (try clear hi)))
                          repeat (go_quiet (first | (go_at_call 27; (with_reducible refine (known_Name.calls 32 t135 _ A78.out).mono ?_); rintro e w94 ⟨rfl, hb⟩; have n0_ := Aside0.mk (below_step (by repeat (first | (with_reducible first | exact HB.out | apply below_alloc | apply pw_below_drewN | apply below_drew1) | exact HB.out)) hb); clear HB; have HB := n0_; clear n0_; (try clear hb); (try clear hb2); (try clear hk); (try clear hi))); try go_wp2_with (first | (go_at_call 27; (with_reducible refine (known_Name.calls 32 t135 _ A78.out).mono ?_); rintro e w94 ⟨rfl, hb⟩; have n0_ := Aside0.mk (below_step (by repeat (first | (with_reducible first | exact HB.out | apply below_alloc | apply pw_below_drewN | apply below_drew1) | exact HB.out)) hb); clear HB; have HB := n0_; clear n0_; (try clear hb); (try clear hb2); (try clear hk); (try clear hi))))
                          go_ret
                          exact ⟨by first | rfl | (simp [errW_none, errW_some] <;> rfl) | (simp [*, errW_none, errW_some] <;> rfl), by repeat (first | (with_reducible first | exact HB.out | apply below_alloc | apply pw_below_drewN | apply below_drew1) | exact HB.out)⟩
        · rw [if_neg c12] at H
          have c12b0 : ((wrap64 ((t113.length : Int) + (t116.length : Int))) == (l1.length : Int)) = false := beq_eq_false_iff_ne.mpr c12
          have c12b1 : ((wrap64 ((t113.length : Int) + (t116.length : Int))) != (l1.length : Int)) = true := bne_iff_ne.mpr c12
          obtain rfl := Option.some.inj H
          as_aux_lemma =>
            go_wp2_with (first | (go_at_call 23; (with_reducible refine (known_Known.calls a0 _ _ l1 t113 _ ?side1 ?side2 A10.out).mono ?_); (case side1 => repeat (first | exact (Kd.C_below HR1.out HB.out) | (with_reducible refine Kd.C_alloc ?_ _) | (with_reducible refine Kd.C_drewN ?_ _) | (with_reducible refine Kd.C_drew ?_))); (case side2 => exact HC1.out); rintro e w95 ⟨v114, rfl, ho0, hb⟩; have n0_ := Aside0.mk (Kd.N_lower (Kd.N_mono (ok' := fun k_ => True) ho0 (fun k_ hk_ => trivial)) (below_size (by repeat (first | (with_reducible first | exact HB.out | apply below_alloc | apply pw_below_drewN | apply below_drew1) | exact HB.out)))); have n1_ := Aside0.mk (below_step (by repeat (first | (with_reducible first | exact HB.out | apply below_alloc | apply pw_below_drewN | apply below_drew1) | exact HB.out)) hb); clear HB; have HO115 := n0_; have HB := n1_; clear n0_ n1_; (try clear hb); (try clear hb2); (try clear hk); (try clear hi); (try clear ho0)) | (go_at_call 24; (with_reducible refine (known_Unknown.calls a0 _ _ l1 t116 _ ?side1 ?side2 A11.out).mono ?_); (case side1 => repeat (first | exact (Kd.C_below HR1.out HB.out) | (with_reducible refine Kd.C_alloc ?_ _) | (with_reducible refine Kd.C_drewN ?_ _) | (with_reducible refine Kd.C_drew ?_))); (case side2 => exact HC1.out); rintro e w96 ⟨v117, rfl, ho0, hb⟩; have n0_ := Aside0.mk (Kd.N_elder' (by (with_reducible repeat (first | apply Kd.N_alloc | apply Kd.N_drewN | apply Kd.N_drew)); exact HO115.out) (by first | exact Kd.N_base ho0 | exact Kd.S_base ho0 | exact Kd.R_base ho0) hb); have n1_ := Aside0.mk (Kd.N_lower (Kd.N_mono (ok' := fun k_ => some k_ ≠ (v114 : Value).ownBlock) ho0 (fun k_ hk_ => (Kd.fresh' (Kd.N_lt (by (with_reducible repeat (first | apply Kd.N_alloc | apply Kd.N_drewN | apply Kd.N_drew)); exact HO115.out)) k_ hk_))) (below_size (by repeat (first | (with_reducible first | exact HB.out | apply below_alloc | apply pw_below_drewN | apply below_drew1) | exact HB.out)))); have n2_ := Aside0.mk (below_step (by repeat (first | (with_reducible first | exact HB.out | apply below_alloc | apply pw_below_drewN | apply below_drew1) | exact HB.out)) hb); clear HO115; clear HB; have HO115 := n0_; have HO118 := n1_; have HB := n2_; clear n0_ n1_ n2_; (try clear hb); (try clear hb2); (try clear hk); (try clear hi); (try clear ho0); obtain ⟨Ao97, co97, eo97⟩ := Kd.N_slice HO115.out; subst eo97; obtain ⟨Ao98, co98, eo98⟩ := Kd.N_slice HO118.out; subst eo98))
            repeat (go_quiet (first | (go_at_call 23; (with_reducible refine (known_Known.calls a0 _ _ l1 t113 _ ?side1 ?side2 A10.out).mono ?_); (case side1 => repeat (first | exact (Kd.C_below HR1.out HB.out) | (with_reducible refine Kd.C_alloc ?_ _) | (with_reducible refine Kd.C_drewN ?_ _) | (with_reducible refine Kd.C_drew ?_))); (case side2 => exact HC1.out); rintro e w95 ⟨v114, rfl, ho0, hb⟩; have n0_ := Aside0.mk (Kd.N_lower (Kd.N_mono (ok' := fun k_ => True) ho0 (fun k_ hk_ => trivial)) (below_size (by repeat (first | (with_reducible first | exact HB.out | apply below_alloc | apply pw_below_drewN | apply below_drew1) | exact HB.out)))); have n1_ := Aside0.mk (below_step (by repeat (first | (with_reducible first | exact HB.out | apply below_alloc | apply pw_below_drewN | apply below_drew1) | exact HB.out)) hb); clear HB; have HO115 := n0_; have HB := n1_; clear n0_ n1_; (try clear hb); (try clear hb2); (try clear hk); (try clear hi); (try clear ho0)) | (go_at_call 24; (with_reducible refine (known_Unknown.calls a0 _ _ l1 t116 _ ?side1 ?side2 A11.out).mono ?_); (case side1 => repeat (first | exact (Kd.C_below HR1.out HB.out) | (with_reducible refine Kd.C_alloc ?_ _) | (with_reducible refine Kd.C_drewN ?_ _) | (with_reducible refine Kd.C_drew ?_))); (case side2 => exact HC1.out); rintro e w96 ⟨v117, rfl, ho0, hb⟩; have n0_ := Aside0.mk (Kd.N_elder' (by (with_reducible repeat (first | apply Kd.N_alloc | apply Kd.N_drewN | apply Kd.N_drew)); exact HO115.out) (by first | exact Kd.N_base ho0 | exact Kd.S_base ho0 | exact Kd.R_base ho0) hb); have n1_ := Aside0.mk (Kd.N_lower (Kd.N_mono (ok' := fun k_ => some k_ ≠ (v114 : Value).ownBlock) ho0 (fun k_ hk_ => (Kd.fresh' (Kd.N_lt (by (with_reducible repeat (first | apply Kd.N_alloc | apply Kd.N_drewN | apply Kd.N_drew)); exact HO115.out)) k_ hk_))) (below_size (by repeat (first | (with_reducible first | exact HB.out | apply below_alloc | apply pw_below_drewN | apply below_drew1) | exact HB.out)))); have n2_ := Aside0.mk (below_step (by repeat (first | (with_reducible first | exact HB.out | apply below_alloc | apply pw_below_drewN | apply below_drew1) | exact HB.out)) hb); clear HO115; clear HB; have HO115 := n0_; have HO118 := n1_; have HB := n2_; clear n0_ n1_ n2_; (try clear hb); (try clear hb2); (try clear hk); (try clear hi); (try clear ho0); obtain ⟨Ao97, co97, eo97⟩ := Kd.N_slice HO115.out; subst eo97; obtain ⟨Ao98, co98, eo98⟩ := Kd.N_slice HO118.out; subst eo98)); try go_wp2_with (first | (go_at_call 23; (with_reducible refine (known_Known.calls a0 _ _ l1 t113 _ ?side1 ?side2 A10.out).mono ?_); (case side1 => repeat (first | exact (Kd.C_below HR1.out HB.out) | (with_reducible refine Kd.C_alloc ?_ _) | (with_reducible refine Kd.C_drewN ?_ _) | (with_reducible refine Kd.C_drew ?_))); (case side2 => exact HC1.out); rintro e w95 ⟨v114, rfl, ho0, hb⟩; have n0_ := Aside0.mk (Kd.N_lower (Kd.N_mono (ok' := fun k_ => True) ho0 (fun k_ hk_ => trivial)) (below_size (by repeat (first | (with_reducible first | exact HB.out | apply below_alloc | apply pw_below_drewN | apply below_drew1) | exact HB.out)))); have n1_ := Aside0.mk (below_step (by repeat (first | (with_reducible first | exact HB.out | apply below_alloc | apply pw_below_drewN | apply below_drew1) | exact HB.out)) hb); clear HB; have HO115 := n0_; have HB := n1_; clear n0_ n1_; (try clear hb); (try clear hb2); (try clear hk); (try clear hi); (try clear ho0)) | (go_at_call 24; (with_reducible refine (known_Unknown.calls a0 _ _ l1 t116 _ ?side1 ?side2 A11.out).mono ?_); (case side1 => repeat (first | exact (Kd.C_below HR1.out HB.out) | (with_reducible refine Kd.C_alloc ?_ _) | (with_reducible refine Kd.C_drewN ?_ _) | (with_reducible refine Kd.C_drew ?_))); (case side2 => exact HC1.out); rintro e w96 ⟨v117, rfl, ho0, hb⟩; have n0_ := Aside0.mk (Kd.N_elder' (by (with_reducible repeat (first | apply Kd.N_alloc | apply Kd.N_drewN | apply Kd.N_drew)); exact HO115.out) (by first | exact Kd.N_base ho0 | exact Kd.S_base ho0 | exact Kd.R_base ho0) hb); have n1_ := Aside0.mk (Kd.N_lower (Kd.N_mono (ok' := fun k_ => some k_ ≠ (v114 : Value).ownBlock) ho0 (fun k_ hk_ => (Kd.fresh' (Kd.N_lt (by (with_reducible repeat (first | apply Kd.N_alloc | apply Kd.N_drewN | apply Kd.N_drew)); exact HO115.out)) k_ hk_))) (below_size (by repeat (first | (with_reducible first | exact HB.out | apply below_alloc | apply pw_below_drewN | apply below_drew1) | exact HB.out)))); have n2_ := Aside0.mk (below_step (by repeat (first | (with_reducible first | exact HB.out | apply below_alloc | apply pw_below_drewN | apply below_drew1) | exact HB.out)) hb); clear HO115; clear HB; have HO115 := n0_; have HO118 := n1_; have HB := n2_; clear n0_ n1_ n2_; (try clear hb); (try clear hb2); (try clear hk); (try clear hi); (try clear ho0); obtain ⟨Ao97, co97, eo97⟩ := Kd.N_slice HO115.out; subst eo97; obtain ⟨Ao98, co98, eo98⟩ := Kd.N_slice HO118.out; subst eo98)))
            go_ret
            exact ⟨by first | rfl | (simp [errW_none, errW_some] <;> rfl) | (simp [*, errW_none, errW_some] <;> rfl), by repeat (first | (with_reducible first | exact HB.out | apply below_alloc | apply pw_below_drewN | apply below_drew1) | exact HB.out)⟩

/-- THE ONE PURE STATEMENT of polyglotlaw07_KnownSplits: yours. -/
def polyglotlaw07_KnownSplits.Pure : Prop := ∀ (a0 : Int) (l1 : List (S40)) (a2 : ByteArray), (Lit.int .i64 a0).wf = true → l1.length ≤ maxLen → (∀ v ∈ l1, ((Lit.int .i64 v.f0).wf = true ∧ (v.f1.length ≤ maxLen ∧ ∀ v4 ∈ v.f1, (Lit.int .u8 v4).wf = true))) → a2.size ≤ 140737488351232 → ∃ k, polyglotlaw07_KnownSplits.f k a0 l1 a2 = some true

end Go.Proofs.Ytdamjkfggmmmeab.PKs
