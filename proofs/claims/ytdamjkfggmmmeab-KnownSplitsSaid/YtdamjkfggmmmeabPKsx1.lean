-- WRITTEN BY A PROGRAM OF THIS SESSION (a print of its own, with given functions). Not trusted: Lean checks it.
import Derived.Test.YtdamjkfggmmmeabPKsx0
namespace Go.Proofs.Ytdamjkfggmmmeab.PKs
open Go.RowKit Go.Proofs.YtdamjkfggmmmeabW.PrintWords Go.Proofs.YtdamjkfggmmmeabW.PrintLast Go.Proofs.YtdamjkfggmmmeabW.PrintMore
attribute [local go_sem] max2_int min2_int max_two min_two max_three min_three max_four min_four   -- for this text's walks alone
set_option linter.unusedVariables false
set_option linter.unusedSimpArgs false

/-! ### polyglotlaw06_Few: function 21 -/
def polyglotlaw06_Few.l0 : Nat → List (S40) → Int → Int → Option (Bool)
  | 0, _, _, _ => none
  | k + 1, x0, x3, x4 => if x4 < (x0.length : Int) then (if 0 ≤ x4 then (if (wrap64 (x3 + (((rd_T40 x0 x4).f1).length : Int))) > 5000 then (some false) else (polyglotlaw06_Few.l0 k x0 (wrap64 (x3 + (((rd_T40 x0 x4).f1).length : Int))) (wrap64 (x4 + 1)))) else (none)) else (some true)
def polyglotlaw06_Few.f (k : Nat) (l0 : List (S40)) : Option (Bool) := if (l0.length : Int) > 40 then (some false) else (polyglotlaw06_Few.l0 k l0 0 0)
theorem polyglotlaw06_Few.mono_l : ∀ k, (∀ y0 y1 y2, LeO (polyglotlaw06_Few.l0 k y0 y1 y2) (polyglotlaw06_Few.l0 (k + 1) y0 y1 y2))
  | 0 => fun _ _ _ r h => by simp [polyglotlaw06_Few.l0] at h
  | k + 1 => by
    have ih0 := polyglotlaw06_Few.mono_l k
    · intro y0 y1 y2
      unfold polyglotlaw06_Few.l0
      repeat' first
      | (with_reducible exact ih0 _ _ _)
      | (with_reducible exact LeO.refl _)
      | (with_reducible exact LeO.none _)
      | (with_reducible refine LeO.ite ?_ ?_)
      | (with_reducible refine LeO.bind ?_ (fun _ => ?_))
      | exact ih0 _ _ _
      | exact LeO.none _
      | refine LeO.ite ?_ ?_
      | refine LeO.bind ?_ (fun _ => ?_)
theorem polyglotlaw06_Few.mono : ∀ a0 k, LeO (polyglotlaw06_Few.f k a0) (polyglotlaw06_Few.f (k + 1) a0) := by
  intro a0 k
  have ih0 := polyglotlaw06_Few.mono_l k
  unfold polyglotlaw06_Few.f
  repeat' first
      | (with_reducible exact ih0 _ _ _)
      | (with_reducible exact LeO.refl _)
      | (with_reducible exact LeO.none _)
      | (with_reducible refine LeO.ite ?_ ?_)
      | (with_reducible refine LeO.bind ?_ (fun _ => ?_))
      | exact ih0 _ _ _
      | exact LeO.none _
      | refine LeO.ite ?_ ?_
      | refine LeO.bind ?_ (fun _ => ?_)
set_option maxHeartbeats 8000000 in
set_option maxRecDepth 100000 in
theorem polyglotlaw06_Few.calls (k : Nat) (A0 : Option Addr) (c0 : Nat) (l0 : List (S40)) (r : Bool) (w : World) (hr0 : Kd.C k40 w A0 l0.length l0) (hc0 : l0.length ≤ c0) (h : polyglotlaw06_Few.f k l0 = some r) :
    Calls Try.prog 21 #[.slice A0 l0.length c0] w fun e w' => e = .returned (.bool r) ∧ Drawn0 w w' := by
  have HR0 := Aside0.mk hr0
  have HC0 := Aside0.mk hc0
  clear hr0 hc0
  have H : (if (l0.length : Int) > 40 then (some false) else (polyglotlaw06_Few.l0 k l0 0 0)) = some r := h
  clear h
  by_cases c2 : (l0.length : Int) > 40
  · rw [if_pos c2] at H
    have c2b0 : decide (40 < (l0.length : Int)) = true := decide_eq_true c2
    have c2b1 : decide (40 < l0.length) = true := decide_eq_true (by omega)
    clear c2
    obtain rfl := Option.some.inj H
    go_enter Try.func21, Try.ntmps21
    go_wp2
    go_ret
    exact ⟨by first | rfl | (simp; done) | (simp [*]; done), by repeat (first | exact Drawn0.refl _ | apply Drawn0.step)⟩
  · rw [if_neg c2] at H
    have c2b0 : decide (40 < (l0.length : Int)) = false := decide_eq_false c2
    have c2b1 : decide (40 < l0.length) = false := decide_eq_false (by omega)
    clear c2
    have H' := Aside0.mk H
    clear H
    go_enter Try.func21, Try.ntmps21
    go_wp2
    go_loopg [3, 4] k (fun kq v3 v4 w' => ∃ (x3_1 : Int) (x4_1 : Int), v3 = .int .i64 x3_1 ∧ v4 = .int .i64 x4_1 ∧ Aside0 (polyglotlaw06_Few.l0 kq l0 x3_1 x4_1 = some r) ∧ Aside0 (kq ≤ k) ∧ Drawn0 w w')
    case atStart => exact ⟨(0), (0), (by first | rfl | (simp; done) | (simp [*]; done)), (by first | rfl | (simp; done) | (simp [*]; done)), H', ⟨Nat.le_refl _⟩, by repeat (first | exact Drawn0.refl _ | apply Drawn0.step)⟩
    case round =>
      clear H'
      try clear c2
      try clear c2b0
      try clear c2b1
      try clear p2
      obtain ⟨x3_1, x4_1, rfl, rfl, HA, HK1, ⟨m1, rfl⟩⟩ := hrel
      cases gk with
      | zero => exact absurd HA.out (by simp [polyglotlaw06_Few.l0])
      | succ k1 =>
        have H := HA.out
        clear HA
        simp only [polyglotlaw06_Few.l0] at H
        by_cases c3 : x4_1 < (l0.length : Int)
        · rw [if_pos c3] at H
          have c3b0 : decide (x4_1 < (l0.length : Int)) = true := decide_eq_true c3
          clear c3
          by_cases c4 : 0 ≤ x4_1
          · rw [if_pos c4] at H
            have c4b0 : decide (0 ≤ x4_1) = true := decide_eq_true c4
            clear c4
            by_cases c5 : (wrap64 (x3_1 + (((rd_T40 l0 x4_1).f1).length : Int))) > 5000
            · rw [if_pos c5] at H
              have c5b0 : decide (5000 < (wrap64 (x3_1 + (((rd_T40 l0 x4_1).f1).length : Int)))) = true := decide_eq_true c5
              clear c5
              obtain rfl := Option.some.inj H
              have p101 : 0 ≤ (x4_1 : Int) := of_decide_eq_true (by first | (with_reducible assumption) | assumption)
              have q101 : x4_1 < (l0.length : Int) := of_decide_eq_true (by first | (with_reducible assumption) | assumption)
              obtain ⟨ad101, A101_1, c101_1, e101, hx101_0, hx101_1, hl101_1, hi101_1⟩ := at_T40 HR0.out x4_1 p101 q101
              cases e101
              have HR101_1 := Aside0.mk hi101_1
              have HC101_1 := Aside0.mk hl101_1
              clear hi101_1 hl101_1
              replace p101 := eq_true p101
              replace q101 := eq_true q101
              go_wp2
              go_ret
              exact ⟨by first | rfl | (simp; done) | (simp [*]; done), by repeat (first | exact Drawn0.refl _ | apply Drawn0.step)⟩
            · rw [if_neg c5] at H
              have c5b0 : decide (5000 < (wrap64 (x3_1 + (((rd_T40 l0 x4_1).f1).length : Int)))) = false := decide_eq_false c5
              clear c5
              have H' := Aside0.mk H
              clear H
              have p101 : 0 ≤ (x4_1 : Int) := of_decide_eq_true (by first | (with_reducible assumption) | assumption)
              have q101 : x4_1 < (l0.length : Int) := of_decide_eq_true (by first | (with_reducible assumption) | assumption)
              obtain ⟨ad101, A101_1, c101_1, e101, hx101_0, hx101_1, hl101_1, hi101_1⟩ := at_T40 HR0.out x4_1 p101 q101
              cases e101
              have HR101_1 := Aside0.mk hi101_1
              have HC101_1 := Aside0.mk hl101_1
              clear hi101_1 hl101_1
              replace p101 := eq_true p101
              replace q101 := eq_true q101
              go_wp2
              go_roundg k1
              case measure => have := HK1.out; omega
              case rel => exact ⟨(wrap64 (x3_1 + (((rd_T40 l0 x4_1).f1).length : Int))), (wrap64 (x4_1 + 1)), (by first | rfl | (simp; done) | (simp [*]; done)), (by first | rfl | (simp; done) | (simp [*]; done)), H', ⟨by have := HK1.out; omega⟩, by repeat (first | exact Drawn0.refl _ | apply Drawn0.step)⟩
          · rw [if_neg c4] at H
            exact absurd H (by simp)
        · rw [if_neg c3] at H
          have c3b0 : decide (x4_1 < (l0.length : Int)) = false := decide_eq_false c3
          clear c3
          obtain rfl := Option.some.inj H
          go_wp2
          go_ret
          exact ⟨by first | rfl | (simp; done) | (simp [*]; done), by repeat (first | exact Drawn0.refl _ | apply Drawn0.step)⟩

/-! ### known_Knows: function 25 -/
def known_Knows.f (a0 : Int) (a1 : Int) : Option (Bool) := if a0 = 3 then (if a1 = 34 then (some true) else (if a1 = 32 then (some true) else (some (a1 == 33)))) else (if a0 = 2 then (if a1 = 32 then (some true) else (some (a1 == 33))) else (some false))
set_option maxHeartbeats 8000000 in
set_option maxRecDepth 100000 in
theorem known_Knows.calls (a0 : Int) (a1 : Int) (r : Bool) (w : World) (h : known_Knows.f a0 a1 = some r) :
    Calls Try.prog 25 #[.int .i64 a0, .int .i64 a1] w fun e w' => e = .returned (.bool r) ∧ Drawn0 w w' := by
  have H : (if a0 = 3 then (if a1 = 34 then (some true) else (if a1 = 32 then (some true) else (some (a1 == 33)))) else (if a0 = 2 then (if a1 = 32 then (some true) else (some (a1 == 33))) else (some false))) = some r := h
  clear h
  by_cases c3 : a0 = 3
  · rw [if_pos c3] at H
    have c3b0 : (a0 == 3) = true := beq_iff_eq.mpr c3
    have c3b1 : (a0 != 3) = false := bne_eq_false_iff_eq.mpr c3
    clear c3
    by_cases c4 : a1 = 34
    · rw [if_pos c4] at H
      have c4b0 : (a1 == 34) = true := beq_iff_eq.mpr c4
      have c4b1 : (a1 != 34) = false := bne_eq_false_iff_eq.mpr c4
      clear c4
      obtain rfl := Option.some.inj H
      go_enter Try.func25, Try.ntmps25
      go_wp2
      go_ret
      exact ⟨by first | rfl | (simp; done) | (simp [*]; done), by repeat (first | exact Drawn0.refl _ | apply Drawn0.step)⟩
    · rw [if_neg c4] at H
      have c4b0 : (a1 == 34) = false := beq_eq_false_iff_ne.mpr c4
      have c4b1 : (a1 != 34) = true := bne_iff_ne.mpr c4
      by_cases c5 : a1 = 32
      · rw [if_pos c5] at H
        have c5b0 : (a1 == 32) = true := beq_iff_eq.mpr c5
        have c5b1 : (a1 != 32) = false := bne_eq_false_iff_eq.mpr c5
        clear c5
        obtain rfl := Option.some.inj H
        go_enter Try.func25, Try.ntmps25
        go_wp2
        go_ret
        exact ⟨by first | rfl | (simp; done) | (simp [*]; done), by repeat (first | exact Drawn0.refl _ | apply Drawn0.step)⟩
      · rw [if_neg c5] at H
        have c5b0 : (a1 == 32) = false := beq_eq_false_iff_ne.mpr c5
        have c5b1 : (a1 != 32) = true := bne_iff_ne.mpr c5
        obtain rfl := Option.some.inj H
        go_enter Try.func25, Try.ntmps25
        go_wp2
        go_ret
        exact ⟨by first | rfl | (simp; done) | (simp [*]; done), by repeat (first | exact Drawn0.refl _ | apply Drawn0.step)⟩
  · rw [if_neg c3] at H
    have c3b0 : (a0 == 3) = false := beq_eq_false_iff_ne.mpr c3
    have c3b1 : (a0 != 3) = true := bne_iff_ne.mpr c3
    by_cases c6 : a0 = 2
    · rw [if_pos c6] at H
      have c6b0 : (a0 == 2) = true := beq_iff_eq.mpr c6
      have c6b1 : (a0 != 2) = false := bne_eq_false_iff_eq.mpr c6
      clear c6
      by_cases c7 : a1 = 32
      · rw [if_pos c7] at H
        have c7b0 : (a1 == 32) = true := beq_iff_eq.mpr c7
        have c7b1 : (a1 != 32) = false := bne_eq_false_iff_eq.mpr c7
        clear c7
        obtain rfl := Option.some.inj H
        go_enter Try.func25, Try.ntmps25
        go_wp2
        go_ret
        exact ⟨by first | rfl | (simp; done) | (simp [*]; done), by repeat (first | exact Drawn0.refl _ | apply Drawn0.step)⟩
      · rw [if_neg c7] at H
        have c7b0 : (a1 == 32) = false := beq_eq_false_iff_ne.mpr c7
        have c7b1 : (a1 != 32) = true := bne_iff_ne.mpr c7
        obtain rfl := Option.some.inj H
        go_enter Try.func25, Try.ntmps25
        go_wp2
        go_ret
        exact ⟨by first | rfl | (simp; done) | (simp [*]; done), by repeat (first | exact Drawn0.refl _ | apply Drawn0.step)⟩
    · rw [if_neg c6] at H
      have c6b0 : (a0 == 2) = false := beq_eq_false_iff_ne.mpr c6
      have c6b1 : (a0 != 2) = true := bne_iff_ne.mpr c6
      obtain rfl := Option.some.inj H
      go_enter Try.func25, Try.ntmps25
      go_wp2
      go_ret
      exact ⟨by first | rfl | (simp; done) | (simp [*]; done), by repeat (first | exact Drawn0.refl _ | apply Drawn0.step)⟩

/-! ### known_plain: function 57 -/
def known_plain.l0 : Nat → ByteArray → Int → Option (Bool)
  | 0, _, _ => none
  | k + 1, x0, x3 => if x3 < (x0.size : Int) then (if 0 ≤ x3 then (if (bt x0 x3) < 97 then (if (bt x0 x3) < 48 then (if (bt x0 x3) = 46 then (known_plain.l0 k x0 (wrap64 (x3 + 1))) else (if (bt x0 x3) = 45 then (known_plain.l0 k x0 (wrap64 (x3 + 1))) else (some false))) else (if (bt x0 x3) > 57 then (if (bt x0 x3) = 46 then (known_plain.l0 k x0 (wrap64 (x3 + 1))) else (if (bt x0 x3) = 45 then (known_plain.l0 k x0 (wrap64 (x3 + 1))) else (some false))) else (known_plain.l0 k x0 (wrap64 (x3 + 1))))) else (if (bt x0 x3) > 122 then (if (bt x0 x3) < 48 then (if (bt x0 x3) = 46 then (known_plain.l0 k x0 (wrap64 (x3 + 1))) else (if (bt x0 x3) = 45 then (known_plain.l0 k x0 (wrap64 (x3 + 1))) else (some false))) else (if (bt x0 x3) > 57 then (if (bt x0 x3) = 46 then (known_plain.l0 k x0 (wrap64 (x3 + 1))) else (if (bt x0 x3) = 45 then (known_plain.l0 k x0 (wrap64 (x3 + 1))) else (some false))) else (known_plain.l0 k x0 (wrap64 (x3 + 1))))) else (known_plain.l0 k x0 (wrap64 (x3 + 1))))) else (none)) else (some true)
def known_plain.f (k : Nat) (a0 : ByteArray) : Option (Bool) := if (a0.size : Int) > 16 then (some false) else (known_plain.l0 k a0 0)
theorem known_plain.mono_l : ∀ k, (∀ y0 y1, LeO (known_plain.l0 k y0 y1) (known_plain.l0 (k + 1) y0 y1))
  | 0 => fun _ _ r h => by simp [known_plain.l0] at h
  | k + 1 => by
    have ih0 := known_plain.mono_l k
    · intro y0 y1
      unfold known_plain.l0
      repeat' first
      | (with_reducible exact ih0 _ _)
      | (with_reducible exact LeO.refl _)
      | (with_reducible exact LeO.none _)
      | (with_reducible refine LeO.ite ?_ ?_)
      | (with_reducible refine LeO.bind ?_ (fun _ => ?_))
      | exact ih0 _ _
      | exact LeO.none _
      | refine LeO.ite ?_ ?_
      | refine LeO.bind ?_ (fun _ => ?_)
theorem known_plain.mono : ∀ a0 k, LeO (known_plain.f k a0) (known_plain.f (k + 1) a0) := by
  intro a0 k
  have ih0 := known_plain.mono_l k
  unfold known_plain.f
  repeat' first
      | (with_reducible exact ih0 _ _)
      | (with_reducible exact LeO.refl _)
      | (with_reducible exact LeO.none _)
      | (with_reducible refine LeO.ite ?_ ?_)
      | (with_reducible refine LeO.bind ?_ (fun _ => ?_))
      | exact ih0 _ _
      | exact LeO.none _
      | refine LeO.ite ?_ ?_
      | refine LeO.bind ?_ (fun _ => ?_)
set_option maxHeartbeats 8000000 in
set_option maxRecDepth 100000 in
theorem known_plain.calls (k : Nat) (a0 : ByteArray) (r : Bool) (w : World) (h : known_plain.f k a0 = some r) :
    Calls Try.prog 57 #[.string a0] w fun e w' => e = .returned (.bool r) ∧ Drawn0 w w' := by
  have H : (if (a0.size : Int) > 16 then (some false) else (known_plain.l0 k a0 0)) = some r := h
  clear h
  by_cases c2 : (a0.size : Int) > 16
  · rw [if_pos c2] at H
    have c2b0 : decide (16 < (a0.size : Int)) = true := decide_eq_true c2
    have c2b1 : decide (16 < a0.size) = true := decide_eq_true (by omega)
    clear c2
    obtain rfl := Option.some.inj H
    go_enter Try.func57, Try.ntmps57
    go_wp2
    go_ret
    exact ⟨by first | rfl | (simp; done) | (simp [*]; done), by repeat (first | exact Drawn0.refl _ | apply Drawn0.step)⟩
  · rw [if_neg c2] at H
    have c2b0 : decide (16 < (a0.size : Int)) = false := decide_eq_false c2
    have c2b1 : decide (16 < a0.size) = false := decide_eq_false (by omega)
    clear c2
    have H' := Aside0.mk H
    clear H
    go_enter Try.func57, Try.ntmps57
    go_wp2
    go_loopg [3] k (fun kq v3 w' => ∃ (x3_1 : Int), v3 = .int .i64 x3_1 ∧ Aside0 (known_plain.l0 kq a0 x3_1 = some r) ∧ Aside0 (kq ≤ k) ∧ Drawn0 w w')
    case atStart => exact ⟨(0), (by first | rfl | (simp; done) | (simp [*]; done)), H', ⟨Nat.le_refl _⟩, by repeat (first | exact Drawn0.refl _ | apply Drawn0.step)⟩
    case round =>
      clear H'
      try clear c2
      try clear c2b0
      try clear c2b1
      try clear p2
      obtain ⟨x3_1, rfl, HA, HK1, ⟨m1, rfl⟩⟩ := hrel
      cases gk with
      | zero => exact absurd HA.out (by simp [known_plain.l0])
      | succ k1 =>
        have H := HA.out
        clear HA
        simp only [known_plain.l0] at H
        by_cases c3 : x3_1 < (a0.size : Int)
        · rw [if_pos c3] at H
          have c3b0 : decide (x3_1 < (a0.size : Int)) = true := decide_eq_true c3
          clear c3
          by_cases c4 : 0 ≤ x3_1
          · rw [if_pos c4] at H
            have c4b0 : decide (0 ≤ x3_1) = true := decide_eq_true c4
            clear c4
            by_cases c6 : (bt a0 x3_1) < 97
            · rw [if_pos c6] at H
              have c6b0 : decide ((bt a0 x3_1) < 97) = true := decide_eq_true c6
              clear c6
              by_cases c7 : (bt a0 x3_1) < 48
              · rw [if_pos c7] at H
                have c7b0 : decide ((bt a0 x3_1) < 48) = true := decide_eq_true c7
                clear c7
                by_cases c8 : (bt a0 x3_1) = 46
                · rw [if_pos c8] at H
                  have c8b0 : ((bt a0 x3_1) == 46) = true := beq_iff_eq.mpr c8
                  have c8b1 : ((bt a0 x3_1) != 46) = false := bne_eq_false_iff_eq.mpr c8
                  clear c8
                  have H' := Aside0.mk H
                  clear H
                  have p5 : 0 ≤ (x3_1 : Int) := of_decide_eq_true (by first | (with_reducible assumption) | assumption)
                  have q5 : x3_1 < (a0.size : Int) := of_decide_eq_true (by first | (with_reducible assumption) | assumption)
                  have hx5 := bt_at a0 x3_1
                  replace p5 := eq_true p5
                  replace q5 := eq_true q5
                  go_wp2
                  go_roundg k1
                  case measure => have := HK1.out; omega
                  case rel => exact ⟨(wrap64 (x3_1 + 1)), (by first | rfl | (simp; done) | (simp [*]; done)), H', ⟨by have := HK1.out; omega⟩, by repeat (first | exact Drawn0.refl _ | apply Drawn0.step)⟩
                · rw [if_neg c8] at H
                  have c8b0 : ((bt a0 x3_1) == 46) = false := beq_eq_false_iff_ne.mpr c8
                  have c8b1 : ((bt a0 x3_1) != 46) = true := bne_iff_ne.mpr c8
                  by_cases c9 : (bt a0 x3_1) = 45
                  · rw [if_pos c9] at H
                    have c9b0 : ((bt a0 x3_1) == 45) = true := beq_iff_eq.mpr c9
                    have c9b1 : ((bt a0 x3_1) != 45) = false := bne_eq_false_iff_eq.mpr c9
                    clear c9
                    have H' := Aside0.mk H
                    clear H
                    have p5 : 0 ≤ (x3_1 : Int) := of_decide_eq_true (by first | (with_reducible assumption) | assumption)
                    have q5 : x3_1 < (a0.size : Int) := of_decide_eq_true (by first | (with_reducible assumption) | assumption)
                    have hx5 := bt_at a0 x3_1
                    replace p5 := eq_true p5
                    replace q5 := eq_true q5
                    go_wp2
                    go_roundg k1
                    case measure => have := HK1.out; omega
                    case rel => exact ⟨(wrap64 (x3_1 + 1)), (by first | rfl | (simp; done) | (simp [*]; done)), H', ⟨by have := HK1.out; omega⟩, by repeat (first | exact Drawn0.refl _ | apply Drawn0.step)⟩
                  · rw [if_neg c9] at H
                    have c9b0 : ((bt a0 x3_1) == 45) = false := beq_eq_false_iff_ne.mpr c9
                    have c9b1 : ((bt a0 x3_1) != 45) = true := bne_iff_ne.mpr c9
                    obtain rfl := Option.some.inj H
                    have p5 : 0 ≤ (x3_1 : Int) := of_decide_eq_true (by first | (with_reducible assumption) | assumption)
                    have q5 : x3_1 < (a0.size : Int) := of_decide_eq_true (by first | (with_reducible assumption) | assumption)
                    have hx5 := bt_at a0 x3_1
                    replace p5 := eq_true p5
                    replace q5 := eq_true q5
                    go_wp2
                    go_ret
                    exact ⟨by first | rfl | (simp; done) | (simp [*]; done), by repeat (first | exact Drawn0.refl _ | apply Drawn0.step)⟩
              · rw [if_neg c7] at H
                have c7b0 : decide ((bt a0 x3_1) < 48) = false := decide_eq_false c7
                clear c7
                by_cases c10 : (bt a0 x3_1) > 57
                · rw [if_pos c10] at H
                  have c10b0 : decide (57 < (bt a0 x3_1)) = true := decide_eq_true c10
                  clear c10
                  by_cases c11 : (bt a0 x3_1) = 46
                  · rw [if_pos c11] at H
                    have c11b0 : ((bt a0 x3_1) == 46) = true := beq_iff_eq.mpr c11
                    have c11b1 : ((bt a0 x3_1) != 46) = false := bne_eq_false_iff_eq.mpr c11
                    clear c11
                    have H' := Aside0.mk H
                    clear H
                    have p5 : 0 ≤ (x3_1 : Int) := of_decide_eq_true (by first | (with_reducible assumption) | assumption)
                    have q5 : x3_1 < (a0.size : Int) := of_decide_eq_true (by first | (with_reducible assumption) | assumption)
                    have hx5 := bt_at a0 x3_1
                    replace p5 := eq_true p5
                    replace q5 := eq_true q5
                    go_wp2
                    go_roundg k1
                    case measure => have := HK1.out; omega
                    case rel => exact ⟨(wrap64 (x3_1 + 1)), (by first | rfl | (simp; done) | (simp [*]; done)), H', ⟨by have := HK1.out; omega⟩, by repeat (first | exact Drawn0.refl _ | apply Drawn0.step)⟩
                  · rw [if_neg c11] at H
                    have c11b0 : ((bt a0 x3_1) == 46) = false := beq_eq_false_iff_ne.mpr c11
                    have c11b1 : ((bt a0 x3_1) != 46) = true := bne_iff_ne.mpr c11
                    by_cases c12 : (bt a0 x3_1) = 45
                    · rw [if_pos c12] at H
                      have c12b0 : ((bt a0 x3_1) == 45) = true := beq_iff_eq.mpr c12
                      have c12b1 : ((bt a0 x3_1) != 45) = false := bne_eq_false_iff_eq.mpr c12
                      clear c12
                      have H' := Aside0.mk H
                      clear H
                      have p5 : 0 ≤ (x3_1 : Int) := of_decide_eq_true (by first | (with_reducible assumption) | assumption)
                      have q5 : x3_1 < (a0.size : Int) := of_decide_eq_true (by first | (with_reducible assumption) | assumption)
                      have hx5 := bt_at a0 x3_1
                      replace p5 := eq_true p5
                      replace q5 := eq_true q5
                      go_wp2
                      go_roundg k1
                      case measure => have := HK1.out; omega
                      case rel => exact ⟨(wrap64 (x3_1 + 1)), (by first | rfl | (simp; done) | (simp [*]; done)), H', ⟨by have := HK1.out; omega⟩, by repeat (first | exact Drawn0.refl _ | apply Drawn0.step)⟩
                    · rw [if_neg c12] at H
                      have c12b0 : ((bt a0 x3_1) == 45) = false := beq_eq_false_iff_ne.mpr c12
                      have c12b1 : ((bt a0 x3_1) != 45) = true := bne_iff_ne.mpr c12
                      obtain rfl := Option.some.inj H
                      have p5 : 0 ≤ (x3_1 : Int) := of_decide_eq_true (by first | (with_reducible assumption) | assumption)
                      have q5 : x3_1 < (a0.size : Int) := of_decide_eq_true (by first | (with_reducible assumption) | assumption)
                      have hx5 := bt_at a0 x3_1
                      replace p5 := eq_true p5
                      replace q5 := eq_true q5
                      go_wp2
                      go_ret
                      exact ⟨by first | rfl | (simp; done) | (simp [*]; done), by repeat (first | exact Drawn0.refl _ | apply Drawn0.step)⟩
                · rw [if_neg c10] at H
                  have c10b0 : decide (57 < (bt a0 x3_1)) = false := decide_eq_false c10
                  clear c10
                  have H' := Aside0.mk H
                  clear H
                  have p5 : 0 ≤ (x3_1 : Int) := of_decide_eq_true (by first | (with_reducible assumption) | assumption)
                  have q5 : x3_1 < (a0.size : Int) := of_decide_eq_true (by first | (with_reducible assumption) | assumption)
                  have hx5 := bt_at a0 x3_1
                  replace p5 := eq_true p5
                  replace q5 := eq_true q5
                  go_wp2
                  go_roundg k1
                  case measure => have := HK1.out; omega
                  case rel => exact ⟨(wrap64 (x3_1 + 1)), (by first | rfl | (simp; done) | (simp [*]; done)), H', ⟨by have := HK1.out; omega⟩, by repeat (first | exact Drawn0.refl _ | apply Drawn0.step)⟩
            · rw [if_neg c6] at H
              have c6b0 : decide ((bt a0 x3_1) < 97) = false := decide_eq_false c6
              clear c6
              by_cases c13 : (bt a0 x3_1) > 122
              · rw [if_pos c13] at H
                have c13b0 : decide (122 < (bt a0 x3_1)) = true := decide_eq_true c13
                clear c13
                by_cases c14 : (bt a0 x3_1) < 48
                · rw [if_pos c14] at H
                  have c14b0 : decide ((bt a0 x3_1) < 48) = true := decide_eq_true c14
                  clear c14
                  by_cases c15 : (bt a0 x3_1) = 46
                  · rw [if_pos c15] at H
                    have c15b0 : ((bt a0 x3_1) == 46) = true := beq_iff_eq.mpr c15
                    have c15b1 : ((bt a0 x3_1) != 46) = false := bne_eq_false_iff_eq.mpr c15
                    clear c15
                    have H' := Aside0.mk H
                    clear H
                    have p5 : 0 ≤ (x3_1 : Int) := of_decide_eq_true (by first | (with_reducible assumption) | assumption)
                    have q5 : x3_1 < (a0.size : Int) := of_decide_eq_true (by first | (with_reducible assumption) | assumption)
                    have hx5 := bt_at a0 x3_1
                    replace p5 := eq_true p5
                    replace q5 := eq_true q5
                    go_wp2
                    go_roundg k1
                    case measure => have := HK1.out; omega
                    case rel => exact ⟨(wrap64 (x3_1 + 1)), (by first | rfl | (simp; done) | (simp [*]; done)), H', ⟨by have := HK1.out; omega⟩, by repeat (first | exact Drawn0.refl _ | apply Drawn0.step)⟩
                  · rw [if_neg c15] at H
                    have c15b0 : ((bt a0 x3_1) == 46) = false := beq_eq_false_iff_ne.mpr c15
                    have c15b1 : ((bt a0 x3_1) != 46) = true := bne_iff_ne.mpr c15
                    by_cases c16 : (bt a0 x3_1) = 45
                    · rw [if_pos c16] at H
                      have c16b0 : ((bt a0 x3_1) == 45) = true := beq_iff_eq.mpr c16
                      have c16b1 : ((bt a0 x3_1) != 45) = false := bne_eq_false_iff_eq.mpr c16
                      clear c16
                      have H' := Aside0.mk H
                      clear H
                      have p5 : 0 ≤ (x3_1 : Int) := of_decide_eq_true (by first | (with_reducible assumption) | assumption)
                      have q5 : x3_1 < (a0.size : Int) := of_decide_eq_true (by first | (with_reducible assumption) | assumption)
                      have hx5 := bt_at a0 x3_1
                      replace p5 := eq_true p5
                      replace q5 := eq_true q5
                      go_wp2
                      go_roundg k1
                      case measure => have := HK1.out; omega
                      case rel => exact ⟨(wrap64 (x3_1 + 1)), (by first | rfl | (simp; done) | (simp [*]; done)), H', ⟨by have := HK1.out; omega⟩, by repeat (first | exact Drawn0.refl _ | apply Drawn0.step)⟩
                    · rw [if_neg c16] at H
                      have c16b0 : ((bt a0 x3_1) == 45) = false := beq_eq_false_iff_ne.mpr c16
                      have c16b1 : ((bt a0 x3_1) != 45) = true := bne_iff_ne.mpr c16
                      obtain rfl := Option.some.inj H
                      have p5 : 0 ≤ (x3_1 : Int) := of_decide_eq_true (by first | (with_reducible assumption) | assumption)
                      have q5 : x3_1 < (a0.size : Int) := of_decide_eq_true (by first | (with_reducible assumption) | assumption)
                      have hx5 := bt_at a0 x3_1
                      replace p5 := eq_true p5
                      replace q5 := eq_true q5
                      go_wp2
                      go_ret
                      exact ⟨by first | rfl | (simp; done) | (simp [*]; done), by repeat (first | exact Drawn0.refl _ | apply Drawn0.step)⟩
                · rw [if_neg c14] at H
                  have c14b0 : decide ((bt a0 x3_1) < 48) = false := decide_eq_false c14
                  clear c14
                  by_cases c17 : (bt a0 x3_1) > 57
                  · rw [if_pos c17] at H
                    have c17b0 : decide (57 < (bt a0 x3_1)) = true := decide_eq_true c17
                    clear c17
                    by_cases c18 : (bt a0 x3_1) = 46
                    · rw [if_pos c18] at H
                      have c18b0 : ((bt a0 x3_1) == 46) = true := beq_iff_eq.mpr c18
                      have c18b1 : ((bt a0 x3_1) != 46) = false := bne_eq_false_iff_eq.mpr c18
                      clear c18
                      have H' := Aside0.mk H
                      clear H
                      have p5 : 0 ≤ (x3_1 : Int) := of_decide_eq_true (by first | (with_reducible assumption) | assumption)
                      have q5 : x3_1 < (a0.size : Int) := of_decide_eq_true (by first | (with_reducible assumption) | assumption)
                      have hx5 := bt_at a0 x3_1
                      replace p5 := eq_true p5
                      replace q5 := eq_true q5
                      go_wp2
                      go_roundg k1
                      case measure => have := HK1.out; omega
                      case rel => exact ⟨(wrap64 (x3_1 + 1)), (by first | rfl | (simp; done) | (simp [*]; done)), H', ⟨by have := HK1.out; omega⟩, by repeat (first | exact Drawn0.refl _ | apply Drawn0.step)⟩
                    · rw [if_neg c18] at H
                      have c18b0 : ((bt a0 x3_1) == 46) = false := beq_eq_false_iff_ne.mpr c18
                      have c18b1 : ((bt a0 x3_1) != 46) = true := bne_iff_ne.mpr c18
                      by_cases c19 : (bt a0 x3_1) = 45
                      · rw [if_pos c19] at H
                        have c19b0 : ((bt a0 x3_1) == 45) = true := beq_iff_eq.mpr c19
                        have c19b1 : ((bt a0 x3_1) != 45) = false := bne_eq_false_iff_eq.mpr c19
                        clear c19
                        have H' := Aside0.mk H
                        clear H
                        have p5 : 0 ≤ (x3_1 : Int) := of_decide_eq_true (by first | (with_reducible assumption) | assumption)
                        have q5 : x3_1 < (a0.size : Int) := of_decide_eq_true (by first | (with_reducible assumption) | assumption)
                        have hx5 := bt_at a0 x3_1
                        replace p5 := eq_true p5
                        replace q5 := eq_true q5
                        go_wp2
                        go_roundg k1
                        case measure => have := HK1.out; omega
                        case rel => exact ⟨(wrap64 (x3_1 + 1)), (by first | rfl | (simp; done) | (simp [*]; done)), H', ⟨by have := HK1.out; omega⟩, by repeat (first | exact Drawn0.refl _ | apply Drawn0.step)⟩
                      · rw [if_neg c19] at H
                        have c19b0 : ((bt a0 x3_1) == 45) = false := beq_eq_false_iff_ne.mpr c19
                        have c19b1 : ((bt a0 x3_1) != 45) = true := bne_iff_ne.mpr c19
                        obtain rfl := Option.some.inj H
                        have p5 : 0 ≤ (x3_1 : Int) := of_decide_eq_true (by first | (with_reducible assumption) | assumption)
                        have q5 : x3_1 < (a0.size : Int) := of_decide_eq_true (by first | (with_reducible assumption) | assumption)
                        have hx5 := bt_at a0 x3_1
                        replace p5 := eq_true p5
                        replace q5 := eq_true q5
                        go_wp2
                        go_ret
                        exact ⟨by first | rfl | (simp; done) | (simp [*]; done), by repeat (first | exact Drawn0.refl _ | apply Drawn0.step)⟩
                  · rw [if_neg c17] at H
                    have c17b0 : decide (57 < (bt a0 x3_1)) = false := decide_eq_false c17
                    clear c17
                    have H' := Aside0.mk H
                    clear H
                    have p5 : 0 ≤ (x3_1 : Int) := of_decide_eq_true (by first | (with_reducible assumption) | assumption)
                    have q5 : x3_1 < (a0.size : Int) := of_decide_eq_true (by first | (with_reducible assumption) | assumption)
                    have hx5 := bt_at a0 x3_1
                    replace p5 := eq_true p5
                    replace q5 := eq_true q5
                    go_wp2
                    go_roundg k1
                    case measure => have := HK1.out; omega
                    case rel => exact ⟨(wrap64 (x3_1 + 1)), (by first | rfl | (simp; done) | (simp [*]; done)), H', ⟨by have := HK1.out; omega⟩, by repeat (first | exact Drawn0.refl _ | apply Drawn0.step)⟩
              · rw [if_neg c13] at H
                have c13b0 : decide (122 < (bt a0 x3_1)) = false := decide_eq_false c13
                clear c13
                have H' := Aside0.mk H
                clear H
                have p5 : 0 ≤ (x3_1 : Int) := of_decide_eq_true (by first | (with_reducible assumption) | assumption)
                have q5 : x3_1 < (a0.size : Int) := of_decide_eq_true (by first | (with_reducible assumption) | assumption)
                have hx5 := bt_at a0 x3_1
                replace p5 := eq_true p5
                replace q5 := eq_true q5
                go_wp2
                go_roundg k1
                case measure => have := HK1.out; omega
                case rel => exact ⟨(wrap64 (x3_1 + 1)), (by first | rfl | (simp; done) | (simp [*]; done)), H', ⟨by have := HK1.out; omega⟩, by repeat (first | exact Drawn0.refl _ | apply Drawn0.step)⟩
          · rw [if_neg c4] at H
            exact absurd H (by simp)
        · rw [if_neg c3] at H
          have c3b0 : decide (x3_1 < (a0.size : Int)) = false := decide_eq_false c3
          clear c3
          obtain rfl := Option.some.inj H
          go_wp2
          go_ret
          exact ⟨by first | rfl | (simp; done) | (simp [*]; done), by repeat (first | exact Drawn0.refl _ | apply Drawn0.step)⟩

/-! ### known_Make: function 38: BY HAND -/
theorem C_cells {W : World} {b : Nat} {l : List Int} {rest : List Value} {T : TypeId} {fr : Nat × Nat} (hb : W.heap[b]? = some (.cells (l.map (Value.int .u8) ++ rest).toArray T fr)) (hl : l.length ≤ 1000000) : Kd.C (Kd.int .u8) W (some ⟨b, 0, none⟩) l.length l := by
  refine ⟨rfl, by omega, fun _ => ⟨_, rfl, fun j p hj => ⟨[.int .u8 p], rfl, rfl, fun i u hu => ?_⟩⟩⟩
  have hi : i = 0 := by have := (List.getElem?_eq_some_iff.1 hu).1; simp at this; omega
  subst hi
  have hu' : Value.int .u8 p = u := by simpa using hu
  subst hu'
  rw [add_plain]
  have hjl := (List.getElem?_eq_some_iff.1 hj).1
  unfold World.cell?
  simp only [hb]
  simp [Kd.int, Kd.scalar, List.getElem?_append_left, hjl]
  exact (List.getElem?_eq_some_iff.1 hj).2
theorem fk_item {W : World} {b : Nat} {t : Int} {l : List Int} {rest : List Value} {T : TypeId} {fr : Nat × Nat} {c : Nat} (hb : W.heap[b]? = some (.cells (l.map (Value.int .u8) ++ rest).toArray T fr)) (hl : l.length ≤ 1000000) (hc : l.length ≤ c) :
    Kd.FK k40 W (fun k => k = b) (⟨t, l⟩ : S40) [.int .i64 t, .slice (some ⟨b, 0, none⟩) l.length c] := by
  intro W' hW
  have hbl : b < W.heap.size := by have := hb; rw [Array.getElem?_eq_some_iff] at this; exact this.1
  exact k40_mk W' ⟨t, l⟩ hc (C_cells ((hW b rfl hbl).trans hb) hl)
def byteL (s : ByteArray) : List Int := s.data.toList.map fun b => (b.toNat : Int)
def rangeB (zone load : Int) : Bool := decide (zone < -1) || decide (zone > 255) || decide (load < -1) || decide (load > 65535)
set_option maxRecDepth 100000 in
set_option maxHeartbeats 8000000 in
theorem make_range (zone load : Int) (s : ByteArray) (w : World) (h : zone < -1 ∨ zone > 255 ∨ load < -1 ∨ load > 65535) :
    Calls Try.prog 38 #[.int .i64 zone, .int .i64 load, .string s] w fun e w' => ∃ v : Value, e = .returned (.tuple #[v, .int .i64 5]) ∧ Kd.N k40 40 w' w.heap.size (fun k => w.heap.size ≤ k) v [] ∧ Below w.heap.size w w' := by
  have hnot : ∀ (x : Bool) (w : World), (Op.unary .not (.bool x)).run Try.prog w = .ok (.bool (!x)) w := fun _ _ => rfl
  by_cases a1 : zone < -1
  · have e1 : decide (zone < -1) = true := decide_eq_true a1
    clear a1 h
    go_enter Try.func38, Try.ntmps38
    go_wp2
    go_ret2
    exact ⟨_, rfl, Kd.N_nil _ _ _ _ _, Below.refl _ _⟩
  · have e1 : decide (zone < -1) = false := decide_eq_false a1
    by_cases a2 : 255 < zone
    · have e2 : decide (255 < zone) = true := decide_eq_true a2
      clear a1 a2 h
      go_enter Try.func38, Try.ntmps38
      go_wp2
      go_ret2
      exact ⟨_, rfl, Kd.N_nil _ _ _ _ _, Below.refl _ _⟩
    · have e2 : decide (255 < zone) = false := decide_eq_false a2
      by_cases a3 : load < -1
      · have e3 : decide (load < -1) = true := decide_eq_true a3
        clear a1 a2 a3 h
        go_enter Try.func38, Try.ntmps38
        go_wp2
        go_ret2
        exact ⟨_, rfl, Kd.N_nil _ _ _ _ _, Below.refl _ _⟩
      · have e3 : decide (load < -1) = false := decide_eq_false a3
        have e4 : decide (65535 < load) = true := decide_eq_true (by omega)
        clear a1 a2 a3 h
        go_enter Try.func38, Try.ntmps38
        go_wp2
        go_ret2
        exact ⟨_, rfl, Kd.N_nil _ _ _ _ _, Below.refl _ _⟩
set_option maxRecDepth 100000 in
set_option maxHeartbeats 8000000 in
theorem make_form (zone load : Int) (s : ByteArray) (w : World) (h : ¬ (zone < -1 ∨ zone > 255 ∨ load < -1 ∨ load > 65535)) (hp : ∃ k, known_plain.f k s = some false) :
    Calls Try.prog 38 #[.int .i64 zone, .int .i64 load, .string s] w fun e w' => ∃ v : Value, e = .returned (.tuple #[v, .int .i64 4]) ∧ Kd.N k40 40 w' w.heap.size (fun k => w.heap.size ≤ k) v [] ∧ Below w.heap.size w w' := by
  have hnot : ∀ (x : Bool) (w : World), (Op.unary .not (.bool x)).run Try.prog w = .ok (.bool (!x)) w := fun _ _ => rfl
  have e1 : decide (zone < -1) = false := decide_eq_false (by omega)
  have e2 : decide (255 < zone) = false := decide_eq_false (by omega)
  have e3 : decide (load < -1) = false := decide_eq_false (by omega)
  have e4 : decide (65535 < load) = false := decide_eq_false (by omega)
  clear h
  obtain ⟨k, hk⟩ := hp
  go_enter Try.func38, Try.ntmps38
  go_wp2_with fail
  refine (known_plain.calls k s false _ hk).mono ?_
  rintro e w1 ⟨rfl, ⟨m, rfl⟩⟩
  go_wp2
  go_ret2
  exact ⟨_, rfl, Kd.N_nil _ _ _ _ _, pw_below_drewN (Below.refl _ _) m⟩
theorem byteL_len (s : ByteArray) : (byteL s).length = s.size := by simp [byteL]
theorem loop_len (s : ByteArray) : ∀ (n i : Nat) (r : List UInt8), s.size - i = n → (ByteArray.toList.loop s i r).length = r.length + n := by
  intro n
  induction n with
  | zero => intro i r h; rw [ByteArray.toList.loop, if_neg (by omega)]; simp
  | succ n ih =>
    intro i r h
    rw [ByteArray.toList.loop, if_pos (by omega), ih (i + 1) _ (by omega)]
    simp; omega
theorem tl_some {s : ByteArray} (h : s.size ≠ 0) : s.toList.isEmpty = false := by
  have := loop_len s s.size 0 [] (by omega)
  cases he : s.toList with
  | nil =>
    have h2 : (ByteArray.toList.loop s 0 []) = [] := he
    rw [h2] at this; simp at this; omega
  | cons a l => rfl
theorem bytesCells_is (w : World) (e : TypeId) (s : ByteArray) : Lib.bytesCells w e s = ((byteL s).map (Value.int .u8) ++ List.replicate (grownCap w s.size 0 e - s.size) (Value.int .u8 0)).toArray := by
  apply Array.ext'
  simp [Lib.bytesCells, byteL, List.map_map, Function.comp_def]
theorem bytes_below (w : World) (e : TypeId) (s : ByteArray) : Below w.heap.size w (Lib.bytesWorld w e s) :=
  ⟨rfl, rfl, rfl, by rw [Lib.bytesWorld_size]; omega, fun k hk => Lib.bytesWorld_at_old w e s k hk⟩
def zoneL (zone : Int) : List S40 := if 0 ≤ zone then [⟨32, [zone]⟩] else []
def loadL (load : Int) : List S40 := if 0 ≤ load then [⟨33, [load / 256, load % 256]⟩] else []
def buildL (s : ByteArray) : List S40 := if s.size ≠ 0 then [⟨34, byteL s⟩] else []
def St (w W : World) (v : Value) (L : List S40) : Prop := Kd.N k40 40 W w.heap.size (fun k => w.heap.size ≤ k) v L ∧ Below w.heap.size w W
theorem St.add {w W0 W : World} {v : Value} {L : List S40} {ops : Array Oper} {rs : List Oper} {o : Oper} {a : Act} {Q : Exit → Act → World → Prop} {l : List Int} {rest : List Value} {T : TypeId} {fr : Nat × Nat} {t : Int} {db dc : Nat} {sx xx : Operand} (h : St w W0 v L)
    (hgd : o.guard = none) (ho : o.op = .call { callee := .builtin .append, args := #[sx, xx], argTypes := #[36, 36] })
    (hs : a.eval sx = v) (hx : a.eval xx = .slice (some ⟨W.heap.size, 0, none⟩) 1 1) (hdl : dc = dc) (hrr : rest = rest)
    (hd : W.heap[db]? = some (.cells (l.map (Value.int .u8) ++ rest).toArray T fr)) (hl : l.length ≤ 1000000) (hc : l.length ≤ dc) (hdb : W0.heap.size ≤ db) (hB : Below W0.heap.size W0 W) (hL : L.length ≤ 100)
    (k : ∀ v1 w1, St w w1 v1 (L ++ [(⟨t, l⟩ : S40)]) → wpList Try.prog ops Q rs (a.put o.dst v1) w1) :
    wpList Try.prog ops Q (o :: rs) a (W.alloc (.cells #[.int .i64 t, .slice (some ⟨db, 0, none⟩) l.length dc] 40)) := by
  have hz := h.2.size
  refine Kd.N_append (o := o) k40 (w0 := w) w.heap.size hgd sx xx 36 40 (.agg #[.int .i64 0, .slice none 0 0]) 32 ho Try.underlying36 (by kernel_rfl) rfl (by decide) (by decide) v L ⟨t, l⟩ [.int .i64 t, .slice (some ⟨db, 0, none⟩) l.length dc] (fun k => w.heap.size ≤ k) (fun k => k = db) hs hx (fk_item hd hl hc) (fun k hk => ⟨by omega, fun e => by have := Kd.N_lt h.1 k e.symm; omega⟩) (fun k hk => by have := hB.size; omega) (Kd.N_below h.1 hB) (h.2.trans (Octet.below_le hB hz)) (by have := hB.size; omega) (by omega) ?_
  intro v1 w1 hN hb _ _
  exact k v1 w1 ⟨hN, hb⟩
set_option maxRecDepth 100000 in
set_option maxHeartbeats 8000000 in
theorem make_is (zone load : Int) (s : ByteArray) (w : World) (h : ¬ (zone < -1 ∨ zone > 255 ∨ load < -1 ∨ load > 65535)) (hp : ∃ k, known_plain.f k s = some true) (hs : s.size ≤ 16) :
    Calls Try.prog 38 #[.int .i64 zone, .int .i64 load, .string s] w fun e w' => ∃ v : Value, e = .returned (.tuple #[v, .int .i64 0]) ∧ Kd.N k40 40 w' w.heap.size (fun k => w.heap.size ≤ k) v (zoneL zone ++ loadL load ++ buildL s) ∧ Below w.heap.size w w' := by
  have hnot : ∀ (x : Bool) (w : World), (Op.unary .not (.bool x)).run Try.prog w = .ok (.bool (!x)) w := fun _ _ => rfl
  have e1 : decide (zone < -1) = false := decide_eq_false (by omega)
  have e2 : decide (255 < zone) = false := decide_eq_false (by omega)
  have e3 : decide (load < -1) = false := decide_eq_false (by omega)
  have e4 : decide (65535 < load) = false := decide_eq_false (by omega)
  have H := Aside0.mk h
  have HS := Aside0.mk hs
  clear h hs
  obtain ⟨k, hk⟩ := hp
  go_enter Try.func38, Try.ntmps38
  go_wp2_with fail
  refine (known_plain.calls k s true _ hk).mono ?_
  rintro e w1 ⟨rfl, ⟨m, rfl⟩⟩
  have HB := Aside0.mk (pw_below_drewN (Below.refl w.heap.size w) m)
  generalize w.drewN m = w1 at HB ⊢
  have HN0 := Aside0.mk (show St w w1 (.slice none 0 0) [] from ⟨Kd.N_nil _ _ _ _ _, HB.out⟩)
  clear HB
  go_upto_if 27 with (fail)
  go_cut [8] (fun v8 wc => Aside0 (St w wc v8 (zoneL zone)))
  case first =>
    by_cases z0 : 0 ≤ zone
    · have d0 : decide (0 ≤ zone) = true := decide_eq_true z0
      have Z0 := Aside0.mk z0
      clear z0
      go_wp2_with (first
       | ((with_reducible refine gate_builtin (b := .append) (xs := #[.tmp 28, .tmp 33]) rfl ?_); at_builtin; go_loud (refine St.add HN0.out (l := [zone % 256]) (rest := []) (T := 5) (fr := (0, 0)) (t := 32) (db := w1.heap.size) (dc := 1) (W := w1.alloc (.cells #[.int .u8 (zone % 256)] 5)) rfl rfl rfl (by show Value.slice _ _ _ = Value.slice _ _ _; simp) rfl rfl (heap_alloc_new w1 _) (by simp) (by simp) (Nat.le_refl _) (below_alloc (Below.refl _ _) _) (by simp) ?_); intro v1 w2 hS; have H2 := Aside0.mk hS; clear hS))
      all_goals (first | (exfalso; have := Z0.out; omega) | skip)
      go_meet
      case rel => exact ⟨by have e := H2.out; have z := Z0.out; have h := H.out; rw [show zone % 256 = zone by omega] at e; unfold zoneL; rw [if_pos z]; exact e⟩
    · have d0 : decide (0 ≤ zone) = false := decide_eq_false z0
      have Z0 := Aside0.mk z0
      clear z0
      go_wp2_with fail
      all_goals (first | (exfalso; have := Z0.out; omega) | skip)
      go_meet
      case rel => exact ⟨by unfold zoneL; rw [if_neg (show ¬ 0 ≤ zone by have := Z0.out; omega)]; exact HN0.out⟩
  case rest =>
    have HN1 := hcut
    clear HN0 hcut
    obtain ⟨A1, c1, rfl⟩ := Kd.N_slice HN1.out.1
    have hl1 : (zoneL zone).length ≤ 1 := by unfold zoneL; split <;> simp
    have HL1 := Aside0.mk hl1
    clear hl1
    go_upto_if 36 with (fail)
    go_cut [8] (fun v8 wd => Aside0 (St w wd v8 (zoneL zone ++ loadL load)))
    case first =>
      by_cases z0 : 0 ≤ load
      · have d0 : decide (0 ≤ load) = true := decide_eq_true z0
        have Z0 := Aside0.mk z0
        clear z0
        go_wp2_with (first
         | ((with_reducible refine gate_builtin (b := .append) (xs := #[.tmp 37, .tmp 45]) rfl ?_); at_builtin; go_loud (refine St.add HN1.out (l := [load / 256 % 256, load % 256]) (rest := []) (T := 5) (fr := (0, 0)) (t := 33) (db := wc.heap.size) (dc := 2) (W := wc.alloc (.cells #[.int .u8 (load / 256 % 256), .int .u8 (load % 256)] 5)) rfl rfl rfl (by show Value.slice _ _ _ = Value.slice _ _ _; simp) rfl rfl (heap_alloc_new wc _) (by simp) (by simp) (Nat.le_refl _) (below_alloc (Below.refl _ _) _) (by have := HL1.out; omega) ?_); intro v1 w2 hS; have H2 := Aside0.mk hS; clear hS))
        all_goals (first | (exfalso; have := Z0.out; omega) | skip)
        go_meet
        case rel => exact ⟨by have e := H2.out; have z := Z0.out; have h := H.out; rw [show load / 256 % 256 = load / 256 by omega] at e; unfold loadL; rw [if_pos z]; exact e⟩
      · have d0 : decide (0 ≤ load) = false := decide_eq_false z0
        have Z0 := Aside0.mk z0
        clear z0
        go_wp2_with fail
        all_goals (first | (exfalso; have := Z0.out; omega) | skip)
        go_meet
        case rel => exact ⟨by unfold loadL; rw [if_neg (show ¬ 0 ≤ load by have := Z0.out; omega), List.append_nil]; exact HN1.out⟩
    case rest =>
      have HN2 := hcut
      clear HN1 hcut
      obtain ⟨A2, c2, rfl⟩ := Kd.N_slice HN2.out.1
      have hl2 : (zoneL zone ++ loadL load).length ≤ 2 := by unfold loadL; rw [List.length_append]; have := HL1.out; split <;> simp <;> omega
      have HL2 := Aside0.mk hl2
      clear hl2
      have hcv := Lib.run_convert_string_bytes (P := Try.prog) wc 9 22 5 s Try.underlying9 Try.underlying22 Try.underlying5
      have hge := Go.grownCap_ge wc s.size 0 5
      have hnew := Lib.bytesWorld_at_new wc 5 s
      have hbel := bytes_below wc 5 s
      have hsz := Lib.bytesWorld_size wc 5 s
      rw [bytesCells_is] at hnew
      obtain ⟨Wb, hWb⟩ : ∃ Wb, Wb = Lib.bytesWorld wc 5 s := ⟨_, rfl⟩
      obtain ⟨cp, hcp⟩ : ∃ cp, cp = grownCap wc s.size 0 5 := ⟨_, rfl⟩
      rw [← hWb, ← hcp] at hcv
      rw [← hWb] at hnew hbel hsz
      rw [← hcp] at hge
      rw [← byteL_len s] at hcv
      have HW := Aside0.mk (And.intro hnew (And.intro hbel (And.intro hsz hge)))
      clear hnew hbel hge hWb hcp
      by_cases s0 : s.size = 0
      · have hs : s = ⟨#[]⟩ := by
          obtain ⟨d⟩ := s
          have : d.size = 0 := s0
          rw [Array.eq_empty_of_size_eq_zero this]
        subst hs
        clear hcv hsz
        go_wp2_with fail
        go_ret2
        refine ⟨_, rfl, ?_, HN2.out.2⟩
        rw [show buildL ⟨#[]⟩ = [] from rfl, List.append_nil]
        exact HN2.out.1
      · have S0 := Aside0.mk s0
        have hne := tl_some s0
        clear s0
        go_wp2_with (first
         | ((with_reducible refine gate_builtin (b := .append) (xs := #[.tmp 49, .tmp 53]) rfl ?_); at_builtin; go_loud (refine St.add HN2.out (l := byteL s) (rest := List.replicate (grownCap wc s.size 0 5 - s.size) (.int .u8 0)) (T := 5) (t := 34) (db := wc.heap.size) (dc := cp) (W := Wb) rfl rfl rfl (by show Value.slice _ _ _ = Value.slice _ _ _; simp [hsz]) rfl rfl HW.out.1 (by rw [byteL_len]; have := HS.out; omega) (by rw [byteL_len]; exact HW.out.2.2.2) (Nat.le_refl _) HW.out.2.1 (by have := HL2.out; omega) ?_); intro v1 w2 hS; have H2 := Aside0.mk hS; clear hS))
        go_ret2
        refine ⟨_, rfl, ?_, H2.out.2⟩
        unfold buildL
        rw [if_pos S0.out]
        exact H2.out.1
def known_Make.f (k : Nat) (a0 a1 : Int) (a2 : ByteArray) : Option (List S40 × Int) :=
  if a0 < -1 ∨ a0 > 255 ∨ a1 < -1 ∨ a1 > 65535 then some ([], 5) else (known_plain.f k a2).bind fun b => if b = true then some (zoneL a0 ++ loadL a1 ++ buildL a2, 0) else some ([], 4)
theorem known_Make.mono : ∀ a0 a1 a2 k, LeO (known_Make.f k a0 a1 a2) (known_Make.f (k + 1) a0 a1 a2) := by
  intro a0 a1 a2 k
  unfold known_Make.f
  split
  · exact LeO.refl _
  · exact LeO.bind (known_plain.mono _ _) (fun _ => LeO.refl _)
theorem known_Make.calls (k : Nat) (a0 a1 : Int) (a2 : ByteArray) (r1 : List S40) (r2 : Int) (w : World) (h : known_Make.f k a0 a1 a2 = some (r1, r2)) :
    Calls Try.prog 38 #[.int .i64 a0, .int .i64 a1, .string a2] w fun e w' => ∃ v0_ : Value, e = .returned (.tuple #[v0_, .int .i64 r2]) ∧ Kd.N k40 40 w' w.heap.size (fun k_ => (w.heap.size ≤ k_)) v0_ r1 ∧ Below w.heap.size w w' := by
  unfold known_Make.f at h
  split at h
  · rename_i hr
    obtain ⟨rfl, rfl⟩ := Prod.mk.inj (Option.some.inj h)
    exact make_range a0 a1 a2 w hr
  · rename_i hr
    obtain ⟨b, hb, h⟩ := Option.bind_eq_some_iff.1 h
    cases b with
    | true =>
      obtain ⟨rfl, rfl⟩ := Prod.mk.inj (Option.some.inj h)
      refine make_is a0 a1 a2 w hr ⟨k, hb⟩ ?_
      unfold known_plain.f at hb
      split at hb
      · cases hb
      · omega
    | false =>
      obtain ⟨rfl, rfl⟩ := Prod.mk.inj (Option.some.inj h)
      exact make_form a0 a1 a2 w hr ⟨k, hb⟩


/-! ### polyglotlaw07_awake: function 22: BY HAND -/
set_option maxRecDepth 100000 in
set_option maxHeartbeats 4000000 in
theorem awake_in (w : World) : Calls Try.prog 22 #[] w fun e w' => e = .returned (.bool true) ∧ Below w.heap.size w w' := by
  have hp : ∃ k, known_plain.f k ⟨#[118, 50]⟩ = some true := ⟨5, by decide +kernel⟩
  go_enter Try.func22, Try.ntmps22
  go_wp2_with fail
  refine (make_is 7 (-1) ⟨#[118, 50]⟩ w (by omega) hp (by decide)).mono ?_
  rintro e w1 ⟨v1, rfl, hN, hB⟩
  have hN : Kd.N k40 40 w1 w.heap.size (fun k => w.heap.size ≤ k) v1 [⟨32, [7]⟩, ⟨34, [118, 50]⟩] := hN
  have HN := Aside0.mk hN
  have HB := Aside0.mk hB
  clear hN hB hp
  go_wp2_with fail
  refine (make_range 256 0 ⟨#[]⟩ w1 (by omega)).mono ?_
  rintro e w2 ⟨v2, rfl, _, hB⟩
  have HN2 := Aside0.mk (Kd.N_below HN.out hB)
  have HB2 := Aside0.mk (HB.out.trans (Octet.below_le hB HB.out.size))
  clear hB HN HB
  obtain ⟨A, c, rfl⟩ := Kd.N_slice HN2.out
  obtain ⟨_, _, hC⟩ := Kd.N_reads' HN2.out
  obtain ⟨ad, A0, c0, rfl, hx0, _, _, _⟩ := at_T40 hC 0 (by decide) (by decide)
  obtain ⟨ad', A1, c1, he, _, hx1, _, hC1⟩ := at_T40 hC 1 (by decide) (by decide)
  cases he
  have hx0 : w2.cell? ad = some (.int .i64 32) := hx0
  have hx1 : w2.cell? ⟨ad.block, ad.off + 2 + 1, none⟩ = some (.slice A1 2 c1) := hx1
  have hC1 : Kd.C (Kd.int .u8) w2 A1 2 [118, 50] := hC1
  have HC1 := Aside0.mk hC1
  clear hC hC1
  go_wp2_with fail
  refine (known_Knows.calls 2 33 true _ rfl).mono ?_
  rintro e w3 ⟨rfl, ⟨m3, rfl⟩⟩
  have hx0 : (w2.drewN m3).cell? ad = some (.int .i64 32) := by simpa using hx0
  have hx1 : (w2.drewN m3).cell? ⟨ad.block, ad.off + 2 + 1, none⟩ = some (.slice A1 2 c1) := by simpa using hx1
  have HC3 := Aside0.mk (Kd.C_drewN HC1.out m3)
  have HB3 := Aside0.mk (pw_below_drewN HB2.out m3)
  generalize w2.drewN m3 = w3 at hx0 hx1 HC3 HB3 ⊢
  clear HC1
  have hnot : ∀ (x : Bool) (w : World), (Op.unary .not (.bool x)).run Try.prog w = .ok (.bool (!x)) w := fun _ _ => rfl
  go_wp2_with fail
  refine (known_Knows.calls 2 34 false _ rfl).mono ?_
  rintro e w4 ⟨rfl, ⟨m4, rfl⟩⟩
  have hx0 : (w3.drewN m4).cell? ad = some (.int .i64 32) := by simpa using hx0
  have hx1 : (w3.drewN m4).cell? ⟨ad.block, ad.off + 2 + 1, none⟩ = some (.slice A1 2 c1) := by simpa using hx1
  have HC4 := Aside0.mk (Kd.C_drewN HC3.out m4)
  have HB4 := Aside0.mk (pw_below_drewN HB3.out m4)
  generalize w3.drewN m4 = w4 at hx0 hx1 HC4 HB4 ⊢
  have hcv : (convert 22 9 (.slice A1 2 c1)).run Try.prog w4 = .ok (.string (strOfNums [118, 50])) w4 := Kd.C_string Try.underlying22 Try.underlying5 Try.underlying9 HC4.out
  have hst : (strOfNums [118, 50]).toList = ([118, 50] : List UInt8) := by decide +kernel
  clear HC3 HC4 HB3
  go_wp2_with fail
  all_goals (first | (exfalso; contradiction) | skip)
  go_ret
  exact ⟨rfl, HB4.out⟩
def polyglotlaw07_awake.f : Option Bool := some true
theorem polyglotlaw07_awake.calls (r : Bool) (w : World) (h : polyglotlaw07_awake.f = some r) :
    Calls Try.prog 22 #[] w fun e w' => e = .returned (.bool r) ∧ Below w.heap.size w w' := by
  obtain rfl := Option.some.inj h
  exact awake_in w


end Go.Proofs.Ytdamjkfggmmmeab.PKs
