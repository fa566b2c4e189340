-- WRITTEN BY A PROGRAM OF THIS SESSION (a print of its own, with given functions). Not trusted: Lean checks it.
import Derived.Test.YtdamjkfggmmmeaaPOcx0
import Derived.Test.YtdamjkfggmmmeaaPOcx1
namespace Go.Proofs.Ytdamjkfggmmmeaa.POc
open Go.RowKit Go.Proofs.YtdamjkfggmmmeaaW.PrintWords Go.Proofs.YtdamjkfggmmmeaaW.PrintLast Go.Proofs.YtdamjkfggmmmeaaW.PrintMore
attribute [local go_sem] max2_int min2_int max_two min_two max_three min_three max_four min_four   -- for this text's walks alone
set_option linter.unusedVariables false
set_option linter.unusedSimpArgs false

/-! ### polyglotlaw01_OctetReads: function 10 -/
mutual
def polyglotlaw01_OctetReads.j0 : Nat → List Int → List (S70) → Bool → Option (Bool)
  | 0, _, _, _ => none
  | k + 1, x0, x1, x20 => if x20 = true then ((polyglotlaw01_awake.f).bind fun t102 => (some t102)) else ((octet_Read.f x0).bind fun t103 => (polyglotlaw01_OctetReads.l0 k x0 x1 0 false 0 t103))
def polyglotlaw01_OctetReads.l0 : Nat → List Int → List (S70) → Int → Bool → Int → Octet.Rd → Option (Bool)
  | 0, _, _, _, _, _, _ => none
  | k + 1, x0, x1, x6, x7, x8, x105000 => if x8 < (x1.length : Int) then (if 0 ≤ x8 then (if ((rd_T70 x1 x8).f1) < 0 then (polyglotlaw01_OctetReads.j2 k x0 x1 x6 x7 x8 ((rd_T70 x1 x8).f1) true x105000) else (if ((rd_T70 x1 x8).f1) > (wrap64 ((x0.length : Int) - x6)) then (polyglotlaw01_OctetReads.j2 k x0 x1 x6 x7 x8 ((rd_T70 x1 x8).f1) true x105000) else (if ((rd_T70 x1 x8).f0 = true) then (polyglotlaw01_OctetReads.j2 k x0 x1 x6 x7 x8 ((rd_T70 x1 x8).f1) false x105000) else (if ((rd_T70 x1 x8).f1) < 1 then (polyglotlaw01_OctetReads.j2 k x0 x1 x6 x7 x8 ((rd_T70 x1 x8).f1) true x105000) else (polyglotlaw01_OctetReads.j2 k x0 x1 x6 x7 x8 ((rd_T70 x1 x8).f1) (decide (((rd_T70 x1 x8).f1) > 7)) x105000))))) else (none)) else ((polyglotlaw01_awake.f).bind fun t105 => (some t105))
def polyglotlaw01_OctetReads.j2 : Nat → List Int → List (S70) → Int → Bool → Int → Int → Bool → Octet.Rd → Option (Bool)
  | 0, _, _, _, _, _, _, _, _ => none
  | k + 1, x0, x1, x6, x7, x8, x9, x60, x105000 => if x60 = true then (polyglotlaw01_OctetReads.j3 k x0 x1 x6 true x8 x9 x105000) else (polyglotlaw01_OctetReads.j3 k x0 x1 x6 x7 x8 x9 x105000)
def polyglotlaw01_OctetReads.j3 : Nat → List Int → List (S70) → Int → Bool → Int → Int → Octet.Rd → Option (Bool)
  | 0, _, _, _, _, _, _, _ => none
  | k + 1, x0, x1, x6, x7, x8, x9, x105000 => if 0 ≤ x8 then (if x8 < (x1.length : Int) then (if (rd_T70 x1 x8).f0 = true then ((octet_Reader_Take.f x105000 x9).bind fun bt109 => (if x7 = true then (if (bt109.1.length : Int) = 0 then (polyglotlaw01_OctetReads.j4 k x0 x1 x6 x7 x8 x9 bt109.2) else (some false)) else (if 0 ≤ x6 then (if x6 ≤ (wrap64 (x6 + x9)) then (if (wrap64 (x6 + x9)) ≤ (x0.length : Int) then ((polyglotlaw01_same.f bt109.1 ((x0.take ((wrap64 (x6 + x9)) : Int).toNat).drop (x6 : Int).toNat)).bind fun t114 => (if t114 = true then (polyglotlaw01_OctetReads.j4 k x0 x1 x6 x7 x8 x9 bt109.2) else (some false))) else (none)) else (none)) else (none)))) else ((octet_Reader_Num.f x105000 x9).bind fun bt115 => (if x7 = true then (if bt115.1 = 0 then (polyglotlaw01_OctetReads.j4 k x0 x1 x6 x7 x8 x9 bt115.2) else (some false)) else (if 0 ≤ x6 then (if x6 ≤ (wrap64 (x6 + x9)) then (if (wrap64 (x6 + x9)) ≤ (x0.length : Int) then ((polyglotlaw01_number.f k ((x0.take ((wrap64 (x6 + x9)) : Int).toNat).drop (x6 : Int).toNat)).bind fun t118 => (if bt115.1 = t118 then (polyglotlaw01_OctetReads.j4 k x0 x1 x6 x7 x8 x9 bt115.2) else (some false))) else (none)) else (none)) else (none))))) else (none)) else (none)
def polyglotlaw01_OctetReads.j4 : Nat → List Int → List (S70) → Int → Bool → Int → Int → Octet.Rd → Option (Bool)
  | 0, _, _, _, _, _, _, _ => none
  | k + 1, x0, x1, x6, x7, x8, x9, x105000 => if x7 = true then (polyglotlaw01_OctetReads.j5 k x0 x1 x6 x7 x8 x105000) else (polyglotlaw01_OctetReads.j5 k x0 x1 (wrap64 (x6 + x9)) x7 x8 x105000)
def polyglotlaw01_OctetReads.j5 : Nat → List Int → List (S70) → Int → Bool → Int → Octet.Rd → Option (Bool)
  | 0, _, _, _, _, _, _ => none
  | k + 1, x0, x1, x6, x7, x8, x105000 => if x7 = true then (polyglotlaw01_OctetReads.j6 k x0 x1 x6 x7 x8 0 x105000) else (polyglotlaw01_OctetReads.j6 k x0 x1 x6 x7 x8 (wrap64 ((x0.length : Int) - x6)) x105000)
def polyglotlaw01_OctetReads.j6 : Nat → List Int → List (S70) → Int → Bool → Int → Int → Octet.Rd → Option (Bool)
  | 0, _, _, _, _, _, _, _ => none
  | k + 1, x0, x1, x6, x7, x8, x12, x105000 => (octet_Reader_Left.f x105000).bind fun bt119 => (if bt119.1 = x12 then ((octet_Reader_Bad.f bt119.2).bind fun bt121 => (if (bt121.1 != x7) = true then (some false) else ((octet_Reader_Done.f bt121.2).bind fun bt123 => (if x7 = true then (if (bt123.1 != false) = true then (some false) else (polyglotlaw01_OctetReads.l0 k x0 x1 x6 x7 (wrap64 (x8 + 1)) bt123.2)) else (if (bt123.1 != (x12 == 0)) = true then (some false) else (polyglotlaw01_OctetReads.l0 k x0 x1 x6 x7 (wrap64 (x8 + 1)) bt123.2)))))) else (some false))
end
def polyglotlaw01_OctetReads.f (k : Nat) (l0 : List Int) (l1 : List (S70)) : Option (Bool) := if (l0.length : Int) > 300 then (polyglotlaw01_OctetReads.j0 k l0 l1 true) else (polyglotlaw01_OctetReads.j0 k l0 l1 (decide ((l1.length : Int) > 40)))
theorem polyglotlaw01_OctetReads.mono_l : ∀ k, (∀ y0 y1 y2, LeO (polyglotlaw01_OctetReads.j0 k y0 y1 y2) (polyglotlaw01_OctetReads.j0 (k + 1) y0 y1 y2)) ∧ (∀ y0 y1 y2 y3 y4 y5, LeO (polyglotlaw01_OctetReads.l0 k y0 y1 y2 y3 y4 y5) (polyglotlaw01_OctetReads.l0 (k + 1) y0 y1 y2 y3 y4 y5)) ∧ (∀ y0 y1 y2 y3 y4 y5 y6 y7, LeO (polyglotlaw01_OctetReads.j2 k y0 y1 y2 y3 y4 y5 y6 y7) (polyglotlaw01_OctetReads.j2 (k + 1) y0 y1 y2 y3 y4 y5 y6 y7)) ∧ (∀ y0 y1 y2 y3 y4 y5 y6, LeO (polyglotlaw01_OctetReads.j3 k y0 y1 y2 y3 y4 y5 y6) (polyglotlaw01_OctetReads.j3 (k + 1) y0 y1 y2 y3 y4 y5 y6)) ∧ (∀ y0 y1 y2 y3 y4 y5 y6, LeO (polyglotlaw01_OctetReads.j4 k y0 y1 y2 y3 y4 y5 y6) (polyglotlaw01_OctetReads.j4 (k + 1) y0 y1 y2 y3 y4 y5 y6)) ∧ (∀ y0 y1 y2 y3 y4 y5, LeO (polyglotlaw01_OctetReads.j5 k y0 y1 y2 y3 y4 y5) (polyglotlaw01_OctetReads.j5 (k + 1) y0 y1 y2 y3 y4 y5)) ∧ (∀ y0 y1 y2 y3 y4 y5 y6, LeO (polyglotlaw01_OctetReads.j6 k y0 y1 y2 y3 y4 y5 y6) (polyglotlaw01_OctetReads.j6 (k + 1) y0 y1 y2 y3 y4 y5 y6))
  | 0 => ⟨fun _ _ _ r h => by simp [polyglotlaw01_OctetReads.j0] at h, fun _ _ _ _ _ _ r h => by simp [polyglotlaw01_OctetReads.l0] at h, fun _ _ _ _ _ _ _ _ r h => by simp [polyglotlaw01_OctetReads.j2] at h, fun _ _ _ _ _ _ _ r h => by simp [polyglotlaw01_OctetReads.j3] at h, fun _ _ _ _ _ _ _ r h => by simp [polyglotlaw01_OctetReads.j4] at h, fun _ _ _ _ _ _ r h => by simp [polyglotlaw01_OctetReads.j5] at h, fun _ _ _ _ _ _ _ r h => by simp [polyglotlaw01_OctetReads.j6] at h⟩
  | k + 1 => by
    obtain ⟨ih0, ih1, ih2, ih3, ih4, ih5, ih6⟩ := polyglotlaw01_OctetReads.mono_l k
    refine ⟨?_, ?_, ?_, ?_, ?_, ?_, ?_⟩
    · intro y0 y1 y2
      unfold polyglotlaw01_OctetReads.j0
      repeat' first
      | (with_reducible exact ih0 _ _ _)
      | (with_reducible exact ih1 _ _ _ _ _ _)
      | (with_reducible exact ih2 _ _ _ _ _ _ _ _)
      | (with_reducible exact ih3 _ _ _ _ _ _ _)
      | (with_reducible exact ih4 _ _ _ _ _ _ _)
      | (with_reducible exact ih5 _ _ _ _ _ _)
      | (with_reducible exact ih6 _ _ _ _ _ _ _)
      | (with_reducible exact polyglotlaw01_number.mono _ _)
      | (with_reducible exact LeO.refl _)
      | (with_reducible exact LeO.none _)
      | (with_reducible refine LeO.ite ?_ ?_)
      | (with_reducible refine LeO.bind ?_ (fun _ => ?_))
      | exact ih0 _ _ _
      | exact ih1 _ _ _ _ _ _
      | exact ih2 _ _ _ _ _ _ _ _
      | exact ih3 _ _ _ _ _ _ _
      | exact ih4 _ _ _ _ _ _ _
      | exact ih5 _ _ _ _ _ _
      | exact ih6 _ _ _ _ _ _ _
      | exact polyglotlaw01_number.mono _ _
      | exact LeO.none _
      | refine LeO.ite ?_ ?_
      | refine LeO.bind ?_ (fun _ => ?_)
    · intro y0 y1 y2 y3 y4 y5
      unfold polyglotlaw01_OctetReads.l0
      repeat' first
      | (with_reducible exact ih0 _ _ _)
      | (with_reducible exact ih1 _ _ _ _ _ _)
      | (with_reducible exact ih2 _ _ _ _ _ _ _ _)
      | (with_reducible exact ih3 _ _ _ _ _ _ _)
      | (with_reducible exact ih4 _ _ _ _ _ _ _)
      | (with_reducible exact ih5 _ _ _ _ _ _)
      | (with_reducible exact ih6 _ _ _ _ _ _ _)
      | (with_reducible exact polyglotlaw01_number.mono _ _)
      | (with_reducible exact LeO.refl _)
      | (with_reducible exact LeO.none _)
      | (with_reducible refine LeO.ite ?_ ?_)
      | (with_reducible refine LeO.bind ?_ (fun _ => ?_))
      | exact ih0 _ _ _
      | exact ih1 _ _ _ _ _ _
      | exact ih2 _ _ _ _ _ _ _ _
      | exact ih3 _ _ _ _ _ _ _
      | exact ih4 _ _ _ _ _ _ _
      | exact ih5 _ _ _ _ _ _
      | exact ih6 _ _ _ _ _ _ _
      | exact polyglotlaw01_number.mono _ _
      | exact LeO.none _
      | refine LeO.ite ?_ ?_
      | refine LeO.bind ?_ (fun _ => ?_)
    · intro y0 y1 y2 y3 y4 y5 y6 y7
      unfold polyglotlaw01_OctetReads.j2
      repeat' first
      | (with_reducible exact ih0 _ _ _)
      | (with_reducible exact ih1 _ _ _ _ _ _)
      | (with_reducible exact ih2 _ _ _ _ _ _ _ _)
      | (with_reducible exact ih3 _ _ _ _ _ _ _)
      | (with_reducible exact ih4 _ _ _ _ _ _ _)
      | (with_reducible exact ih5 _ _ _ _ _ _)
      | (with_reducible exact ih6 _ _ _ _ _ _ _)
      | (with_reducible exact polyglotlaw01_number.mono _ _)
      | (with_reducible exact LeO.refl _)
      | (with_reducible exact LeO.none _)
      | (with_reducible refine LeO.ite ?_ ?_)
      | (with_reducible refine LeO.bind ?_ (fun _ => ?_))
      | exact ih0 _ _ _
      | exact ih1 _ _ _ _ _ _
      | exact ih2 _ _ _ _ _ _ _ _
      | exact ih3 _ _ _ _ _ _ _
      | exact ih4 _ _ _ _ _ _ _
      | exact ih5 _ _ _ _ _ _
      | exact ih6 _ _ _ _ _ _ _
      | exact polyglotlaw01_number.mono _ _
      | exact LeO.none _
      | refine LeO.ite ?_ ?_
      | refine LeO.bind ?_ (fun _ => ?_)
    · intro y0 y1 y2 y3 y4 y5 y6
      unfold polyglotlaw01_OctetReads.j3
      repeat' first
      | (with_reducible exact ih0 _ _ _)
      | (with_reducible exact ih1 _ _ _ _ _ _)
      | (with_reducible exact ih2 _ _ _ _ _ _ _ _)
      | (with_reducible exact ih3 _ _ _ _ _ _ _)
      | (with_reducible exact ih4 _ _ _ _ _ _ _)
      | (with_reducible exact ih5 _ _ _ _ _ _)
      | (with_reducible exact ih6 _ _ _ _ _ _ _)
      | (with_reducible exact polyglotlaw01_number.mono _ _)
      | (with_reducible exact LeO.refl _)
      | (with_reducible exact LeO.none _)
      | (with_reducible refine LeO.ite ?_ ?_)
      | (with_reducible refine LeO.bind ?_ (fun _ => ?_))
      | exact ih0 _ _ _
      | exact ih1 _ _ _ _ _ _
      | exact ih2 _ _ _ _ _ _ _ _
      | exact ih3 _ _ _ _ _ _ _
      | exact ih4 _ _ _ _ _ _ _
      | exact ih5 _ _ _ _ _ _
      | exact ih6 _ _ _ _ _ _ _
      | exact polyglotlaw01_number.mono _ _
      | exact LeO.none _
      | refine LeO.ite ?_ ?_
      | refine LeO.bind ?_ (fun _ => ?_)
    · intro y0 y1 y2 y3 y4 y5 y6
      unfold polyglotlaw01_OctetReads.j4
      repeat' first
      | (with_reducible exact ih0 _ _ _)
      | (with_reducible exact ih1 _ _ _ _ _ _)
      | (with_reducible exact ih2 _ _ _ _ _ _ _ _)
      | (with_reducible exact ih3 _ _ _ _ _ _ _)
      | (with_reducible exact ih4 _ _ _ _ _ _ _)
      | (with_reducible exact ih5 _ _ _ _ _ _)
      | (with_reducible exact ih6 _ _ _ _ _ _ _)
      | (with_reducible exact polyglotlaw01_number.mono _ _)
      | (with_reducible exact LeO.refl _)
      | (with_reducible exact LeO.none _)
      | (with_reducible refine LeO.ite ?_ ?_)
      | (with_reducible refine LeO.bind ?_ (fun _ => ?_))
      | exact ih0 _ _ _
      | exact ih1 _ _ _ _ _ _
      | exact ih2 _ _ _ _ _ _ _ _
      | exact ih3 _ _ _ _ _ _ _
      | exact ih4 _ _ _ _ _ _ _
      | exact ih5 _ _ _ _ _ _
      | exact ih6 _ _ _ _ _ _ _
      | exact polyglotlaw01_number.mono _ _
      | exact LeO.none _
      | refine LeO.ite ?_ ?_
      | refine LeO.bind ?_ (fun _ => ?_)
    · intro y0 y1 y2 y3 y4 y5
      unfold polyglotlaw01_OctetReads.j5
      repeat' first
      | (with_reducible exact ih0 _ _ _)
      | (with_reducible exact ih1 _ _ _ _ _ _)
      | (with_reducible exact ih2 _ _ _ _ _ _ _ _)
      | (with_reducible exact ih3 _ _ _ _ _ _ _)
      | (with_reducible exact ih4 _ _ _ _ _ _ _)
      | (with_reducible exact ih5 _ _ _ _ _ _)
      | (with_reducible exact ih6 _ _ _ _ _ _ _)
      | (with_reducible exact polyglotlaw01_number.mono _ _)
      | (with_reducible exact LeO.refl _)
      | (with_reducible exact LeO.none _)
      | (with_reducible refine LeO.ite ?_ ?_)
      | (with_reducible refine LeO.bind ?_ (fun _ => ?_))
      | exact ih0 _ _ _
      | exact ih1 _ _ _ _ _ _
      | exact ih2 _ _ _ _ _ _ _ _
      | exact ih3 _ _ _ _ _ _ _
      | exact ih4 _ _ _ _ _ _ _
      | exact ih5 _ _ _ _ _ _
      | exact ih6 _ _ _ _ _ _ _
      | exact polyglotlaw01_number.mono _ _
      | exact LeO.none _
      | refine LeO.ite ?_ ?_
      | refine LeO.bind ?_ (fun _ => ?_)
    · intro y0 y1 y2 y3 y4 y5 y6
      unfold polyglotlaw01_OctetReads.j6
      repeat' first
      | (with_reducible exact ih0 _ _ _)
      | (with_reducible exact ih1 _ _ _ _ _ _)
      | (with_reducible exact ih2 _ _ _ _ _ _ _ _)
      | (with_reducible exact ih3 _ _ _ _ _ _ _)
      | (with_reducible exact ih4 _ _ _ _ _ _ _)
      | (with_reducible exact ih5 _ _ _ _ _ _)
      | (with_reducible exact ih6 _ _ _ _ _ _ _)
      | (with_reducible exact polyglotlaw01_number.mono _ _)
      | (with_reducible exact LeO.refl _)
      | (with_reducible exact LeO.none _)
      | (with_reducible refine LeO.ite ?_ ?_)
      | (with_reducible refine LeO.bind ?_ (fun _ => ?_))
      | exact ih0 _ _ _
      | exact ih1 _ _ _ _ _ _
      | exact ih2 _ _ _ _ _ _ _ _
      | exact ih3 _ _ _ _ _ _ _
      | exact ih4 _ _ _ _ _ _ _
      | exact ih5 _ _ _ _ _ _
      | exact ih6 _ _ _ _ _ _ _
      | exact polyglotlaw01_number.mono _ _
      | exact LeO.none _
      | refine LeO.ite ?_ ?_
      | refine LeO.bind ?_ (fun _ => ?_)
theorem polyglotlaw01_OctetReads.mono : ∀ a0 a1 k, LeO (polyglotlaw01_OctetReads.f k a0 a1) (polyglotlaw01_OctetReads.f (k + 1) a0 a1) := by
  intro a0 a1 k
  obtain ⟨ih0, ih1, ih2, ih3, ih4, ih5, ih6⟩ := polyglotlaw01_OctetReads.mono_l k
  unfold polyglotlaw01_OctetReads.f
  repeat' first
      | (with_reducible exact ih0 _ _ _)
      | (with_reducible exact ih1 _ _ _ _ _ _)
      | (with_reducible exact ih2 _ _ _ _ _ _ _ _)
      | (with_reducible exact ih3 _ _ _ _ _ _ _)
      | (with_reducible exact ih4 _ _ _ _ _ _ _)
      | (with_reducible exact ih5 _ _ _ _ _ _)
      | (with_reducible exact ih6 _ _ _ _ _ _ _)
      | (with_reducible exact polyglotlaw01_number.mono _ _)
      | (with_reducible exact LeO.refl _)
      | (with_reducible exact LeO.none _)
      | (with_reducible refine LeO.ite ?_ ?_)
      | (with_reducible refine LeO.bind ?_ (fun _ => ?_))
      | exact ih0 _ _ _
      | exact ih1 _ _ _ _ _ _
      | exact ih2 _ _ _ _ _ _ _ _
      | exact ih3 _ _ _ _ _ _ _
      | exact ih4 _ _ _ _ _ _ _
      | exact ih5 _ _ _ _ _ _
      | exact ih6 _ _ _ _ _ _ _
      | exact polyglotlaw01_number.mono _ _
      | exact LeO.none _
      | refine LeO.ite ?_ ?_
      | refine LeO.bind ?_ (fun _ => ?_)
set_option maxHeartbeats 8000000 in
set_option maxRecDepth 100000 in
theorem polyglotlaw01_OctetReads.calls (k : Nat) (A0 : Option Addr) (c0 : Nat) (l0 : List Int) (A1 : Option Addr) (c1 : Nat) (l1 : List (S70)) (r : Bool) (w : World) (hr0 : Kd.C (Kd.int .u8) w A0 l0.length l0) (hc0 : l0.length ≤ c0) (hr1 : Kd.C k70 w A1 l1.length l1) (hc1 : l1.length ≤ c1) (h : polyglotlaw01_OctetReads.f k l0 l1 = some r) :
    Calls Try.prog 10 #[.slice A0 l0.length c0, .slice A1 l1.length c1] w fun e w' => e = .returned (.bool r) ∧ Below w.heap.size w w' := by
  have HR0 := Aside0.mk hr0
  have HC0 := Aside0.mk hc0
  clear hr0 hc0
  have HR1 := Aside0.mk hr1
  have HC1 := Aside0.mk hc1
  clear hr1 hc1
  have HB := Aside0.mk (Below.refl w.heap.size w)
  have H : (if (l0.length : Int) > 300 then (polyglotlaw01_OctetReads.j0 k l0 l1 true) else (polyglotlaw01_OctetReads.j0 k l0 l1 (decide ((l1.length : Int) > 40)))) = some r := h
  clear h
  have HC3 := Aside0.mk H
  clear H
  go_enter Try.func10, Try.ntmps10
  go_upto_region 1 with (fail)
  go_cut [20] (fun v20 wc => ∃ (kq : Nat) (x20_2 : Bool), v20 = .bool x20_2 ∧ Aside0 (polyglotlaw01_OctetReads.j0 kq l0 l1 x20_2 = some r) ∧ Aside0 (kq ≤ k) ∧ Aside0 (Below w.heap.size w wc))
  case first =>
    have H := HC3.out
    clear HC3
    by_cases c4 : (l0.length : Int) > 300
    · rw [if_pos c4] at H
      have c4b0 : decide (300 < (l0.length : Int)) = true := decide_eq_true c4
      have c4b1 : decide (300 < l0.length) = true := decide_eq_true (by omega)
      clear c4
      (first | rw [c4b0] | (simp only [i64_w, i32_w]; rw [c4b0]) | skip)
      have H' := Aside0.mk H
      clear H
      go_wp2
      go_meet
      case rel => exact ⟨_, (true), (by first | rfl | (simp; done) | (simp [*]; done)), H', ⟨by first | omega | exact Nat.le_refl _⟩, ⟨by repeat (first | (with_reducible first | exact HB.out | apply below_alloc | apply pw_below_drewN | apply below_drew1) | exact HB.out)⟩⟩
    · rw [if_neg c4] at H
      have c4b0 : decide (300 < (l0.length : Int)) = false := decide_eq_false c4
      have c4b1 : decide (300 < l0.length) = false := decide_eq_false (by omega)
      clear c4
      (first | rw [c4b0] | (simp only [i64_w, i32_w]; rw [c4b0]) | skip)
      have H' := Aside0.mk H
      clear H
      go_wp2
      go_meet
      case rel => exact ⟨_, (decide ((l1.length : Int) > 40)), (by first | rfl | (simp; done) | (simp [*]; done)), H', ⟨by first | omega | exact Nat.le_refl _⟩, ⟨by repeat (first | (with_reducible first | exact HB.out | apply below_alloc | apply pw_below_drewN | apply below_drew1) | exact HB.out)⟩⟩
  case rest =>
    clear HC3
    try clear c1
    try clear p2
    try clear c4
    try clear c4b0
    try clear c4b1
    obtain ⟨kq, x20_2, rfl, HA, HJ2, HB⟩ := hcut
    cases kq with
    | zero => exact absurd HA.out (by simp [polyglotlaw01_OctetReads.j0])
    | succ kj2 =>
      have H := HA.out
      clear HA
      simp only [polyglotlaw01_OctetReads.j0] at H
      by_cases c5 : x20_2 = true
      · subst c5
        have H1 : ((polyglotlaw01_awake.f).bind fun t102 => (some t102)) = some r := by rw [if_pos rfl] at H; exact H
        clear H
        have H := H1
        clear H1
        replace H := Option.bind_eq_some_iff.mp H
        obtain ⟨t102, A60, H⟩ := H
        replace H : (some t102) = some r := H
        have A6 := Aside0.mk A60
        clear A60
        obtain rfl := Option.some.inj H
        go_wp2_with (first | ((with_reducible refine gate_callee (f := 35) rfl ?_); refine goesL_ (some 21) rfl rfl Try.func35 (by kernel_rfl) rfl #[] rfl (by (try simp only [List.map_toArray, List.map_cons, List.map_nil]); first | done | rfl | (simp only [List.length_drop, List.length_take]; rfl)) ?_; (with_reducible refine (polyglotlaw01_awake.calls  t102 _ A6.out).mono ?_); rintro e w7 ⟨rfl, hb⟩; refine ⟨_, rfl, ?_⟩; have n0_ := Aside0.mk (below_step (by repeat (first | (with_reducible first | exact HB.out | apply below_alloc | apply pw_below_drewN | apply below_drew1) | exact HB.out)) hb); clear HB; have HB := n0_; clear n0_; (try clear hb); (try clear hb2); (try clear hk); (try clear hi)))
        go_ret
        exact ⟨by first | rfl | (simp [errW_none, errW_some] <;> rfl) | (simp [*, errW_none, errW_some] <;> rfl), by repeat (first | (with_reducible first | exact HB.out | apply below_alloc | apply pw_below_drewN | apply below_drew1) | exact HB.out)⟩
      · replace c5 := Bool.eq_false_iff.mpr c5
        subst c5
        have H1 : ((octet_Read.f l0).bind fun t103 => (polyglotlaw01_OctetReads.l0 kj2 l0 l1 0 false 0 t103)) = some r := by rw [if_neg (show ¬ (false = true) by decide)] at H; exact H
        clear H
        have H := H1
        clear H1
        replace H := Option.bind_eq_some_iff.mp H
        obtain ⟨t103, A80, H⟩ := H
        replace H : (polyglotlaw01_OctetReads.l0 kj2 l0 l1 0 false 0 t103) = some r := H
        have A8 := Aside0.mk A80
        clear A80
        have H' := Aside0.mk H
        clear H
        go_wp2_with (first | ((with_reducible refine gate_callee (f := 36) rfl ?_); refine goesL_ (some 23) rfl rfl Try.func36 (by kernel_rfl) rfl #[.slice A0 l0.length c0] rfl (by (try simp only [List.map_toArray, List.map_cons, List.map_nil]); first | done | rfl | (simp only [List.length_drop, List.length_take]; rfl)) ?_; (with_reducible refine (octet_Read.calls _ _ l0 t103 w _ ?side1 ?side2 ?side3 A8.out).mono ?_); (case side1 => repeat (first | (with_reducible first | exact HB.out | apply below_alloc | apply pw_below_drewN | apply below_drew1) | exact HB.out)); (case side2 => repeat (first | exact (Kd.C_below HR0.out HB.out) | (with_reducible refine Kd.C_alloc ?_ _) | (with_reducible refine Kd.C_drewN ?_ _) | (with_reducible refine Kd.C_drew ?_))); (case side3 => exact HC0.out); rintro e w9 ⟨g104, rfl, hi, hb, hb2⟩; refine ⟨_, rfl, ?_⟩; have n0_ := Aside0.mk (hb); have n1_ := Aside0.mk (hi); clear HB; have HB := n0_; have HI104 := n1_; clear n0_ n1_; (try clear hb); (try clear hb2); (try clear hk); (try clear hi)))
        go_loopg [6, 7, 8] kj2 (fun kq v6 v7 v8 w' => ∃ (x6_2 : Int) (x7_2 : Bool) (x8_2 : Int) (x105000_2 : Octet.Rd), v6 = .int .i64 x6_2 ∧ v7 = .bool x7_2 ∧ v8 = .int .i64 x8_2 ∧ Aside0 (polyglotlaw01_OctetReads.l0 kq l0 l1 x6_2 x7_2 x8_2 x105000_2 = some r) ∧ Aside0 (kq ≤ kj2) ∧ Aside0 (IsS109 w w' g104 x105000_2) ∧ Aside0 (Below w.heap.size w w'))
        case atStart => exact ⟨(0), (false), (0), (t103), (by first | rfl | (simp; done) | (simp [*]; done)), (by first | rfl | (simp; done) | (simp [*]; done)), (by first | rfl | (simp; done) | (simp [*]; done)), H', ⟨Nat.le_refl _⟩, ⟨by repeat (first | (with_reducible first | exact HI104.out | apply IsS109.alloc | apply IsS109.drewN | apply IsS109.drew | apply IsS109.set_0) | exact HI104.out)⟩, ⟨by repeat (first | (with_reducible first | exact HB.out | apply below_alloc | apply pw_below_drewN | apply below_drew1 | refine below_set ?_ (IsS109.ge HI104.out)) | exact HB.out)⟩⟩
        case round =>
          clear H'
          try clear c1
          try clear p2
          try clear c3
          try clear c4
          try clear c4b0
          try clear c4b1
          try clear c5
          try clear p2
          obtain ⟨x6_2, x7_2, x8_2, x105000_2, rfl, rfl, rfl, HA, HK2, HI104, HB⟩ := hrel
          cases gk with
          | zero => exact absurd HA.out (by simp [polyglotlaw01_OctetReads.l0])
          | succ k2 =>
            have H := HA.out
            clear HA
            simp only [polyglotlaw01_OctetReads.l0] at H
            by_cases c10 : x8_2 < (l1.length : Int)
            · rw [if_pos c10] at H
              have c10b0 : decide (x8_2 < (l1.length : Int)) = true := decide_eq_true c10
              clear c10
              by_cases c11 : 0 ≤ x8_2
              · rw [if_pos c11] at H
                have c11b0 : decide (0 ≤ x8_2) = true := decide_eq_true c11
                clear c11
                have HC12 := Aside0.mk H
                clear H
                have p106 : 0 ≤ (x8_2 : Int) := of_decide_eq_true (by first | (with_reducible assumption) | assumption)
                have q106 : x8_2 < (l1.length : Int) := of_decide_eq_true (by first | (with_reducible assumption) | assumption)
                obtain ⟨ad106, e106, hx106_0, hx106_1⟩ := at_T70 HR1.out x8_2 p106 q106
                cases e106
                replace hx106_0 := (HB.out.cell (World.block_lt_of_cell? w _ hx106_0)).trans hx106_0
                replace hx106_1 := (HB.out.cell (World.block_lt_of_cell? w _ hx106_1)).trans hx106_1
                replace p106 := eq_true p106
                replace q106 := eq_true q106
                go_upto_region 10 with (fail)
                go_cut [60] (fun v60 wc => ∃ (kq : Nat) (x60_11 : Bool), v60 = .bool x60_11 ∧ Aside0 (polyglotlaw01_OctetReads.j2 kq l0 l1 x6_2 x7_2 x8_2 ((rd_T70 l1 x8_2).f1) x60_11 x105000_2 = some r) ∧ Aside0 (kq ≤ k2) ∧ Aside0 (IsS109 w wc g104 x105000_2) ∧ Aside0 (Below w.heap.size w wc))
                case first =>
                  have H := HC12.out
                  clear HC12
                  by_cases c13 : ((rd_T70 l1 x8_2).f1) < 0
                  · rw [if_pos c13] at H
                    have c13b0 : decide (((rd_T70 l1 x8_2).f1) < 0) = true := decide_eq_true c13
                    clear c13
                    (first | rw [c13b0] | (simp only [i64_w, i32_w]; rw [c13b0]) | skip)
                    have H' := Aside0.mk H
                    clear H
                    go_wp2
                    go_meet
                    case rel => exact ⟨_, (true), (by first | rfl | (simp; done) | (simp [*]; done)), H', ⟨by have := HJ2.out; have := HK2.out; first | omega | exact Nat.le_refl _⟩, ⟨by repeat (first | (with_reducible first | exact HI104.out | apply IsS109.alloc | apply IsS109.drewN | apply IsS109.drew | apply IsS109.set_0) | exact HI104.out)⟩, ⟨by repeat (first | (with_reducible first | exact HB.out | apply below_alloc | apply pw_below_drewN | apply below_drew1 | refine below_set ?_ (IsS109.ge HI104.out)) | exact HB.out)⟩⟩
                  · rw [if_neg c13] at H
                    have c13b0 : decide (((rd_T70 l1 x8_2).f1) < 0) = false := decide_eq_false c13
                    clear c13
                    (first | rw [c13b0] | (simp only [i64_w, i32_w]; rw [c13b0]) | skip)
                    by_cases c14 : ((rd_T70 l1 x8_2).f1) > (wrap64 ((l0.length : Int) - x6_2))
                    · rw [if_pos c14] at H
                      have c14b0 : decide ((wrap64 ((l0.length : Int) - x6_2)) < ((rd_T70 l1 x8_2).f1)) = true := decide_eq_true c14
                      clear c14
                      have H' := Aside0.mk H
                      clear H
                      go_wp2
                      go_meet
                      case rel => exact ⟨_, (true), (by first | rfl | (simp; done) | (simp [*]; done)), H', ⟨by have := HJ2.out; have := HK2.out; first | omega | exact Nat.le_refl _⟩, ⟨by repeat (first | (with_reducible first | exact HI104.out | apply IsS109.alloc | apply IsS109.drewN | apply IsS109.drew | apply IsS109.set_0) | exact HI104.out)⟩, ⟨by repeat (first | (with_reducible first | exact HB.out | apply below_alloc | apply pw_below_drewN | apply below_drew1 | refine below_set ?_ (IsS109.ge HI104.out)) | exact HB.out)⟩⟩
                    · rw [if_neg c14] at H
                      have c14b0 : decide ((wrap64 ((l0.length : Int) - x6_2)) < ((rd_T70 l1 x8_2).f1)) = false := decide_eq_false c14
                      clear c14
                      obtain ⟨bq15, hbq15⟩ : ∃ b_ : Bool, b_ = ((rd_T70 l1 x8_2).f0) := ⟨_, rfl⟩
                      replace H : (if (bq15 = true) then (polyglotlaw01_OctetReads.j2 k2 l0 l1 x6_2 x7_2 x8_2 ((rd_T70 l1 x8_2).f1) false x105000_2) else (if ((rd_T70 l1 x8_2).f1) < 1 then (polyglotlaw01_OctetReads.j2 k2 l0 l1 x6_2 x7_2 x8_2 ((rd_T70 l1 x8_2).f1) true x105000_2) else (polyglotlaw01_OctetReads.j2 k2 l0 l1 x6_2 x7_2 x8_2 ((rd_T70 l1 x8_2).f1) (decide (((rd_T70 l1 x8_2).f1) > 7)) x105000_2))) = some r := by rw [← hbq15] at H; exact H
                      have Nbq15 := Aside0.mk hbq15
                      clear hbq15
                      by_cases c16 : (bq15 = true)
                      · subst c16
                        have H1 : (polyglotlaw01_OctetReads.j2 k2 l0 l1 x6_2 x7_2 x8_2 ((rd_T70 l1 x8_2).f1) false x105000_2) = some r := by rw [if_pos rfl] at H; exact H
                        clear H
                        have H := H1
                        clear H1
                        have H' := Aside0.mk H
                        clear H
                        have p107 : 0 ≤ (x8_2 : Int) := of_decide_eq_true (by first | (with_reducible assumption) | assumption)
                        have q107 : x8_2 < (l1.length : Int) := of_decide_eq_true (by first | (with_reducible assumption) | assumption)
                        obtain ⟨ad107, e107, hx107_0, hx107_1⟩ := at_T70 HR1.out x8_2 p107 q107
                        (try rw [← Nbq15.out] at hx107_0)
                        obtain rfl : ad106 = ad107 := (by injection e107)
                        replace hx107_0 := (HB.out.cell (World.block_lt_of_cell? w _ hx107_0)).trans hx107_0
                        (try (rw [hx107_0] at hx106_0; clear hx106_0))
                        replace hx107_1 := (HB.out.cell (World.block_lt_of_cell? w _ hx107_1)).trans hx107_1
                        (try (rw [hx107_1] at hx106_1; clear hx106_1))
                        replace p107 := eq_true p107
                        replace q107 := eq_true q107
                        go_wp2
                        go_meet
                        case rel => exact ⟨_, (false), (by first | rfl | (simp; done) | (simp [*]; done)), H', ⟨by have := HJ2.out; have := HK2.out; first | omega | exact Nat.le_refl _⟩, ⟨by repeat (first | (with_reducible first | exact HI104.out | apply IsS109.alloc | apply IsS109.drewN | apply IsS109.drew | apply IsS109.set_0) | exact HI104.out)⟩, ⟨by repeat (first | (with_reducible first | exact HB.out | apply below_alloc | apply pw_below_drewN | apply below_drew1 | refine below_set ?_ (IsS109.ge HI104.out)) | exact HB.out)⟩⟩
                      · replace c16 := Bool.eq_false_iff.mpr c16
                        subst c16
                        have H1 : (if ((rd_T70 l1 x8_2).f1) < 1 then (polyglotlaw01_OctetReads.j2 k2 l0 l1 x6_2 x7_2 x8_2 ((rd_T70 l1 x8_2).f1) true x105000_2) else (polyglotlaw01_OctetReads.j2 k2 l0 l1 x6_2 x7_2 x8_2 ((rd_T70 l1 x8_2).f1) (decide (((rd_T70 l1 x8_2).f1) > 7)) x105000_2)) = some r := by rw [if_neg (show ¬ (false = true) by decide)] at H; exact H
                        clear H
                        have H := H1
                        clear H1
                        by_cases c17 : ((rd_T70 l1 x8_2).f1) < 1
                        · rw [if_pos c17] at H
                          have c17b0 : decide (((rd_T70 l1 x8_2).f1) < 1) = true := decide_eq_true c17
                          clear c17
                          have H' := Aside0.mk H
                          clear H
                          have p107 : 0 ≤ (x8_2 : Int) := of_decide_eq_true (by first | (with_reducible assumption) | assumption)
                          have q107 : x8_2 < (l1.length : Int) := of_decide_eq_true (by first | (with_reducible assumption) | assumption)
                          obtain ⟨ad107, e107, hx107_0, hx107_1⟩ := at_T70 HR1.out x8_2 p107 q107
                          (try rw [← Nbq15.out] at hx107_0)
                          obtain rfl : ad106 = ad107 := (by injection e107)
                          replace hx107_0 := (HB.out.cell (World.block_lt_of_cell? w _ hx107_0)).trans hx107_0
                          (try (rw [hx107_0] at hx106_0; clear hx106_0))
                          replace hx107_1 := (HB.out.cell (World.block_lt_of_cell? w _ hx107_1)).trans hx107_1
                          (try (rw [hx107_1] at hx106_1; clear hx106_1))
                          replace p107 := eq_true p107
                          replace q107 := eq_true q107
                          go_wp2
                          go_meet
                          case rel => exact ⟨_, (true), (by first | rfl | (simp; done) | (simp [*]; done)), H', ⟨by have := HJ2.out; have := HK2.out; first | omega | exact Nat.le_refl _⟩, ⟨by repeat (first | (with_reducible first | exact HI104.out | apply IsS109.alloc | apply IsS109.drewN | apply IsS109.drew | apply IsS109.set_0) | exact HI104.out)⟩, ⟨by repeat (first | (with_reducible first | exact HB.out | apply below_alloc | apply pw_below_drewN | apply below_drew1 | refine below_set ?_ (IsS109.ge HI104.out)) | exact HB.out)⟩⟩
                        · rw [if_neg c17] at H
                          have c17b0 : decide (((rd_T70 l1 x8_2).f1) < 1) = false := decide_eq_false c17
                          clear c17
                          have H' := Aside0.mk H
                          clear H
                          have p107 : 0 ≤ (x8_2 : Int) := of_decide_eq_true (by first | (with_reducible assumption) | assumption)
                          have q107 : x8_2 < (l1.length : Int) := of_decide_eq_true (by first | (with_reducible assumption) | assumption)
                          obtain ⟨ad107, e107, hx107_0, hx107_1⟩ := at_T70 HR1.out x8_2 p107 q107
                          (try rw [← Nbq15.out] at hx107_0)
                          obtain rfl : ad106 = ad107 := (by injection e107)
                          replace hx107_0 := (HB.out.cell (World.block_lt_of_cell? w _ hx107_0)).trans hx107_0
                          (try (rw [hx107_0] at hx106_0; clear hx106_0))
                          replace hx107_1 := (HB.out.cell (World.block_lt_of_cell? w _ hx107_1)).trans hx107_1
                          (try (rw [hx107_1] at hx106_1; clear hx106_1))
                          replace p107 := eq_true p107
                          replace q107 := eq_true q107
                          go_wp2
                          go_meet
                          case rel => exact ⟨_, (decide (((rd_T70 l1 x8_2).f1) > 7)), (by first | rfl | (simp; done) | (simp [*]; done)), H', ⟨by have := HJ2.out; have := HK2.out; first | omega | exact Nat.le_refl _⟩, ⟨by repeat (first | (with_reducible first | exact HI104.out | apply IsS109.alloc | apply IsS109.drewN | apply IsS109.drew | apply IsS109.set_0) | exact HI104.out)⟩, ⟨by repeat (first | (with_reducible first | exact HB.out | apply below_alloc | apply pw_below_drewN | apply below_drew1 | refine below_set ?_ (IsS109.ge HI104.out)) | exact HB.out)⟩⟩
                case rest =>
                  clear HC12
                  try clear c1
                  try clear p1
                  try clear q1
                  try clear hx1
                  try clear p2
                  try clear c3
                  try clear c4
                  try clear c4b0
                  try clear c4b1
                  try clear c5
                  try clear p6
                  try clear c10
                  try clear c10b0
                  try clear p10
                  try clear q10
                  try clear hx10
                  try clear c11
                  try clear c11b0
                  try clear c13
                  try clear c13b0
                  try clear c14
                  try clear c14b0
                  try clear q15
                  try clear c16
                  try clear c17
                  try clear c17b0
                  try clear hx106_0
                  try clear hx106_1
                  try clear hx107_0
                  try clear hx107_1
                  try clear p106
                  try clear p107
                  try clear p2
                  try clear q106
                  try clear q107
                  obtain ⟨kq, x60_11, rfl, HA, HJ11, HI104, HB⟩ := hcut
                  cases kq with
                  | zero => exact absurd HA.out (by simp [polyglotlaw01_OctetReads.j2])
                  | succ kj11 =>
                    have H := HA.out
                    clear HA
                    simp only [polyglotlaw01_OctetReads.j2] at H
                    have HC18 := Aside0.mk H
                    clear H
                    go_upto_if 60 with (fail)
                    go_cut [7] (fun v7 wc => ∃ (kq : Nat) (x7_17 : Bool), v7 = .bool x7_17 ∧ Aside0 (polyglotlaw01_OctetReads.j3 kq l0 l1 x6_2 x7_17 x8_2 ((rd_T70 l1 x8_2).f1) x105000_2 = some r) ∧ Aside0 (kq ≤ kj11) ∧ Aside0 (IsS109 w wc g104 x105000_2) ∧ Aside0 (Below w.heap.size w wc))
                    case first =>
                      have H := HC18.out
                      clear HC18
                      by_cases c19 : x60_11 = true
                      · subst c19
                        have H1 : (polyglotlaw01_OctetReads.j3 kj11 l0 l1 x6_2 true x8_2 ((rd_T70 l1 x8_2).f1) x105000_2) = some r := by rw [if_pos rfl] at H; exact H
                        clear H
                        have H := H1
                        clear H1
                        have H' := Aside0.mk H
                        clear H
                        go_wp2
                        go_meet
                        case rel => exact ⟨_, (true), (by first | rfl | (simp; done) | (simp [*]; done)), H', ⟨by have := HJ2.out; have := HK2.out; have := HJ11.out; first | omega | exact Nat.le_refl _⟩, ⟨by repeat (first | (with_reducible first | exact HI104.out | apply IsS109.alloc | apply IsS109.drewN | apply IsS109.drew | apply IsS109.set_0) | exact HI104.out)⟩, ⟨by repeat (first | (with_reducible first | exact HB.out | apply below_alloc | apply pw_below_drewN | apply below_drew1 | refine below_set ?_ (IsS109.ge HI104.out)) | exact HB.out)⟩⟩
                      · replace c19 := Bool.eq_false_iff.mpr c19
                        subst c19
                        have H1 : (polyglotlaw01_OctetReads.j3 kj11 l0 l1 x6_2 x7_2 x8_2 ((rd_T70 l1 x8_2).f1) x105000_2) = some r := by rw [if_neg (show ¬ (false = true) by decide)] at H; exact H
                        clear H
                        have H := H1
                        clear H1
                        have H' := Aside0.mk H
                        clear H
                        go_wp2
                        go_meet
                        case rel => exact ⟨_, (x7_2), (by first | rfl | (simp; done) | (simp [*]; done)), H', ⟨by have := HJ2.out; have := HK2.out; have := HJ11.out; first | omega | exact Nat.le_refl _⟩, ⟨by repeat (first | (with_reducible first | exact HI104.out | apply IsS109.alloc | apply IsS109.drewN | apply IsS109.drew | apply IsS109.set_0) | exact HI104.out)⟩, ⟨by repeat (first | (with_reducible first | exact HB.out | apply below_alloc | apply pw_below_drewN | apply below_drew1 | refine below_set ?_ (IsS109.ge HI104.out)) | exact HB.out)⟩⟩
                    case rest =>
                      clear HC18
                      try clear c1
                      try clear p1
                      try clear q1
                      try clear hx1
                      try clear p2
                      try clear c3
                      try clear c4
                      try clear c4b0
                      try clear c4b1
                      try clear c5
                      try clear p6
                      try clear c10
                      try clear c10b0
                      try clear p10
                      try clear q10
                      try clear hx10
                      try clear c11
                      try clear c11b0
                      try clear c13
                      try clear c13b0
                      try clear c14
                      try clear c14b0
                      try clear q15
                      try clear c16
                      try clear c17
                      try clear c17b0
                      try clear c19
                      try clear hx106_0
                      try clear hx106_1
                      try clear hx107_0
                      try clear hx107_1
                      try clear p1
                      try clear p10
                      try clear p106
                      try clear p107
                      try clear p2
                      try clear p6
                      try clear q1
                      try clear q10
                      try clear q106
                      try clear q107
                      try clear q15
                      obtain ⟨kq, x7_17, rfl, HA, HJ17, HI104, HB⟩ := hcut
                      cases kq with
                      | zero => exact absurd HA.out (by simp [polyglotlaw01_OctetReads.j3])
                      | succ kj17 =>
                        have H := HA.out
                        clear HA
                        simp only [polyglotlaw01_OctetReads.j3] at H
                        by_cases c20 : 0 ≤ x8_2
                        · rw [if_pos c20] at H
                          have c20b0 : decide (0 ≤ x8_2) = true := decide_eq_true c20
                          clear c20
                          by_cases c21 : x8_2 < (l1.length : Int)
                          · rw [if_pos c21] at H
                            have c21b0 : decide (x8_2 < (l1.length : Int)) = true := decide_eq_true c21
                            clear c21
                            have HC22 := Aside0.mk H
                            clear H
                            have p108 : 0 ≤ (x8_2 : Int) := of_decide_eq_true (by first | (with_reducible assumption) | assumption)
                            have q108 : x8_2 < (l1.length : Int) := of_decide_eq_true (by first | (with_reducible assumption) | assumption)
                            obtain ⟨ad108, e108, hx108_0, hx108_1⟩ := at_T70 HR1.out x8_2 p108 q108
                            obtain rfl : ad106 = ad108 := (by injection e108)
                            replace hx108_0 := (HB.out.cell (World.block_lt_of_cell? w _ hx108_0)).trans hx108_0
                            (try (rw [hx108_0] at hx106_0; clear hx106_0))
                            (try (rw [hx108_0] at hx107_0; clear hx107_0))
                            replace hx108_1 := (HB.out.cell (World.block_lt_of_cell? w _ hx108_1)).trans hx108_1
                            (try (rw [hx108_1] at hx106_1; clear hx106_1))
                            (try (rw [hx108_1] at hx107_1; clear hx107_1))
                            replace p108 := eq_true p108
                            replace q108 := eq_true q108
                            go_upto_if 65 with (fail)
                            go_cut [] (fun wc => ∃ (kq : Nat) (x105000_21 : Octet.Rd), Aside0 (polyglotlaw01_OctetReads.j4 kq l0 l1 x6_2 x7_17 x8_2 ((rd_T70 l1 x8_2).f1) x105000_21 = some r) ∧ Aside0 (kq ≤ kj17) ∧ Aside0 (IsS109 w wc g104 x105000_21) ∧ Aside0 (Below w.heap.size w wc))
                            case first =>
                              have H := HC22.out
                              clear HC22
                              obtain ⟨bq23, hbq23⟩ : ∃ b_ : Bool, b_ = ((rd_T70 l1 x8_2).f0) := ⟨_, rfl⟩
                              replace H : (if bq23 = true then ((octet_Reader_Take.f x105000_2 ((rd_T70 l1 x8_2).f1)).bind fun bt109 => (if x7_17 = true then (if (bt109.1.length : Int) = 0 then (polyglotlaw01_OctetReads.j4 kj17 l0 l1 x6_2 x7_17 x8_2 ((rd_T70 l1 x8_2).f1) bt109.2) else (some false)) else (if 0 ≤ x6_2 then (if x6_2 ≤ (wrap64 (x6_2 + ((rd_T70 l1 x8_2).f1))) then (if (wrap64 (x6_2 + ((rd_T70 l1 x8_2).f1))) ≤ (l0.length : Int) then ((polyglotlaw01_same.f bt109.1 ((l0.take ((wrap64 (x6_2 + ((rd_T70 l1 x8_2).f1))) : Int).toNat).drop (x6_2 : Int).toNat)).bind fun t114 => (if t114 = true then (polyglotlaw01_OctetReads.j4 kj17 l0 l1 x6_2 x7_17 x8_2 ((rd_T70 l1 x8_2).f1) bt109.2) else (some false))) else (none)) else (none)) else (none)))) else ((octet_Reader_Num.f x105000_2 ((rd_T70 l1 x8_2).f1)).bind fun bt115 => (if x7_17 = true then (if bt115.1 = 0 then (polyglotlaw01_OctetReads.j4 kj17 l0 l1 x6_2 x7_17 x8_2 ((rd_T70 l1 x8_2).f1) bt115.2) else (some false)) else (if 0 ≤ x6_2 then (if x6_2 ≤ (wrap64 (x6_2 + ((rd_T70 l1 x8_2).f1))) then (if (wrap64 (x6_2 + ((rd_T70 l1 x8_2).f1))) ≤ (l0.length : Int) then ((polyglotlaw01_number.f kj17 ((l0.take ((wrap64 (x6_2 + ((rd_T70 l1 x8_2).f1))) : Int).toNat).drop (x6_2 : Int).toNat)).bind fun t118 => (if bt115.1 = t118 then (polyglotlaw01_OctetReads.j4 kj17 l0 l1 x6_2 x7_17 x8_2 ((rd_T70 l1 x8_2).f1) bt115.2) else (some false))) else (none)) else (none)) else (none))))) = some r := by rw [← hbq23] at H; exact H
                              have Nbq23 := Aside0.mk hbq23
                              clear hbq23
                              (try rw [← Nbq23.out])
                              by_cases c24 : bq23 = true
                              · subst c24
                                have H1 : ((octet_Reader_Take.f x105000_2 ((rd_T70 l1 x8_2).f1)).bind fun bt109 => (if x7_17 = true then (if (bt109.1.length : Int) = 0 then (polyglotlaw01_OctetReads.j4 kj17 l0 l1 x6_2 x7_17 x8_2 ((rd_T70 l1 x8_2).f1) bt109.2) else (some false)) else (if 0 ≤ x6_2 then (if x6_2 ≤ (wrap64 (x6_2 + ((rd_T70 l1 x8_2).f1))) then (if (wrap64 (x6_2 + ((rd_T70 l1 x8_2).f1))) ≤ (l0.length : Int) then ((polyglotlaw01_same.f bt109.1 ((l0.take ((wrap64 (x6_2 + ((rd_T70 l1 x8_2).f1))) : Int).toNat).drop (x6_2 : Int).toNat)).bind fun t114 => (if t114 = true then (polyglotlaw01_OctetReads.j4 kj17 l0 l1 x6_2 x7_17 x8_2 ((rd_T70 l1 x8_2).f1) bt109.2) else (some false))) else (none)) else (none)) else (none)))) = some r := by rw [if_pos rfl] at H; exact H
                                clear H
                                have H := H1
                                clear H1
                                replace H := Option.bind_eq_some_iff.mp H
                                obtain ⟨⟨t109, t112⟩, A250, H⟩ := H
                                replace H : (if x7_17 = true then (if (t109.length : Int) = 0 then (polyglotlaw01_OctetReads.j4 kj17 l0 l1 x6_2 x7_17 x8_2 ((rd_T70 l1 x8_2).f1) t112) else (some false)) else (if 0 ≤ x6_2 then (if x6_2 ≤ (wrap64 (x6_2 + ((rd_T70 l1 x8_2).f1))) then (if (wrap64 (x6_2 + ((rd_T70 l1 x8_2).f1))) ≤ (l0.length : Int) then ((polyglotlaw01_same.f t109 ((l0.take ((wrap64 (x6_2 + ((rd_T70 l1 x8_2).f1))) : Int).toNat).drop (x6_2 : Int).toNat)).bind fun t114 => (if t114 = true then (polyglotlaw01_OctetReads.j4 kj17 l0 l1 x6_2 x7_17 x8_2 ((rd_T70 l1 x8_2).f1) t112) else (some false))) else (none)) else (none)) else (none))) = some r := H
                                have A25 := Aside0.mk A250
                                clear A250
                                by_cases c26 : x7_17 = true
                                · subst c26
                                  have H1 : (if (t109.length : Int) = 0 then (polyglotlaw01_OctetReads.j4 kj17 l0 l1 x6_2 true x8_2 ((rd_T70 l1 x8_2).f1) t112) else (some false)) = some r := by rw [if_pos rfl] at H; exact H
                                  clear H
                                  have H := H1
                                  clear H1
                                  by_cases c27 : (t109.length : Int) = 0
                                  · rw [if_pos c27] at H
                                    have c27b0 : ((t109.length : Int) == 0) = true := beq_iff_eq.mpr c27
                                    have c27b1 : ((t109.length : Int) != 0) = false := bne_eq_false_iff_eq.mpr c27
                                    clear c27
                                    have H' := Aside0.mk H
                                    clear H
                                    go_wp2_with (first | ((with_reducible refine gate_callee (f := 37) rfl ?_); refine goesL_ (some 68) rfl rfl Try.func37 (by kernel_rfl) rfl #[.pointer (some ⟨g104, 0, none⟩), .int .i64 ((rd_T70 l1 x8_2).f1)] rfl (by (try simp only [List.map_toArray, List.map_cons, List.map_nil]); first | done | rfl | (simp only [List.length_drop, List.length_take]; rfl)) ?_; (with_reducible refine (octet_Reader_Take.calls g104 x105000_2 ((rd_T70 l1 x8_2).f1) t109 t112 w _ ?side1 ?side2 A25.out).mono ?_); (case side1 => repeat (first | (with_reducible first | exact HI104.out | apply IsS109.alloc | apply IsS109.drewN | apply IsS109.drew | apply IsS109.set_0) | exact HI104.out)); (case side2 => repeat (first | (with_reducible first | exact HB.out | apply below_alloc | apply pw_below_drewN | apply below_drew1 | refine below_set ?_ (IsS109.ge HI104.out)) | exact HB.out)); rintro e w28 ⟨v110, rfl, ho0, hi, hb, hk⟩; refine ⟨_, rfl, ?_⟩; have n0_ := Aside0.mk (Kd.R_lower ho0 (below_size (by repeat (first | (with_reducible first | exact HB.out | apply below_alloc | apply pw_below_drewN | apply below_drew1 | refine below_set ?_ (IsS109.ge HI104.out)) | exact HB.out)))); have n1_ := Aside0.mk (hb); have n2_ := Aside0.mk (hi); clear HB; clear HI104; have HO111 := n0_; have HB := n1_; have HI104 := n2_; clear n0_ n1_ n2_; (try clear hb); (try clear hb2); (try clear hk); (try clear hi); (try clear ho0); obtain ⟨Ao29, co29, eo29⟩ := Kd.R_slice HO111.out; subst eo29))
                                    go_meet
                                    case rel => exact ⟨_, (t112), H', ⟨by have := HJ2.out; have := HK2.out; have := HJ11.out; have := HJ17.out; first | omega | exact Nat.le_refl _⟩, ⟨by repeat (first | (with_reducible first | exact HI104.out | apply IsS109.alloc | apply IsS109.drewN | apply IsS109.drew | apply IsS109.set_0) | exact HI104.out)⟩, ⟨by repeat (first | (with_reducible first | exact HB.out | apply below_alloc | apply pw_below_drewN | apply below_drew1 | refine below_set ?_ (IsS109.ge HI104.out)) | exact HB.out)⟩⟩
                                  · rw [if_neg c27] at H
                                    have c27b0 : ((t109.length : Int) == 0) = false := beq_eq_false_iff_ne.mpr c27
                                    have c27b1 : ((t109.length : Int) != 0) = true := bne_iff_ne.mpr c27
                                    have c27b2 : ¬ (t109 = []) := fun h_ => c27 (by rw [h_]; rfl)
                                    obtain rfl := Option.some.inj H
                                    go_wp2_with (first | ((with_reducible refine gate_callee (f := 37) rfl ?_); refine goesL_ (some 68) rfl rfl Try.func37 (by kernel_rfl) rfl #[.pointer (some ⟨g104, 0, none⟩), .int .i64 ((rd_T70 l1 x8_2).f1)] rfl (by (try simp only [List.map_toArray, List.map_cons, List.map_nil]); first | done | rfl | (simp only [List.length_drop, List.length_take]; rfl)) ?_; (with_reducible refine (octet_Reader_Take.calls g104 x105000_2 ((rd_T70 l1 x8_2).f1) t109 t112 w _ ?side1 ?side2 A25.out).mono ?_); (case side1 => repeat (first | (with_reducible first | exact HI104.out | apply IsS109.alloc | apply IsS109.drewN | apply IsS109.drew | apply IsS109.set_0) | exact HI104.out)); (case side2 => repeat (first | (with_reducible first | exact HB.out | apply below_alloc | apply pw_below_drewN | apply below_drew1 | refine below_set ?_ (IsS109.ge HI104.out)) | exact HB.out)); rintro e w30 ⟨v110, rfl, ho0, hi, hb, hk⟩; refine ⟨_, rfl, ?_⟩; have n0_ := Aside0.mk (Kd.R_lower ho0 (below_size (by repeat (first | (with_reducible first | exact HB.out | apply below_alloc | apply pw_below_drewN | apply below_drew1 | refine below_set ?_ (IsS109.ge HI104.out)) | exact HB.out)))); have n1_ := Aside0.mk (hb); have n2_ := Aside0.mk (hi); clear HB; clear HI104; have HO111 := n0_; have HB := n1_; have HI104 := n2_; clear n0_ n1_ n2_; (try clear hb); (try clear hb2); (try clear hk); (try clear hi); (try clear ho0); obtain ⟨Ao31, co31, eo31⟩ := Kd.R_slice HO111.out; subst eo31))
                                    go_ret
                                    exact ⟨by first | rfl | (simp [errW_none, errW_some] <;> rfl) | (simp [*, errW_none, errW_some] <;> rfl), by repeat (first | (with_reducible first | exact HB.out | apply below_alloc | apply pw_below_drewN | apply below_drew1 | refine below_set ?_ (IsS109.ge HI104.out)) | exact HB.out)⟩
                                · replace c26 := Bool.eq_false_iff.mpr c26
                                  subst c26
                                  have H1 : (if 0 ≤ x6_2 then (if x6_2 ≤ (wrap64 (x6_2 + ((rd_T70 l1 x8_2).f1))) then (if (wrap64 (x6_2 + ((rd_T70 l1 x8_2).f1))) ≤ (l0.length : Int) then ((polyglotlaw01_same.f t109 ((l0.take ((wrap64 (x6_2 + ((rd_T70 l1 x8_2).f1))) : Int).toNat).drop (x6_2 : Int).toNat)).bind fun t114 => (if t114 = true then (polyglotlaw01_OctetReads.j4 kj17 l0 l1 x6_2 false x8_2 ((rd_T70 l1 x8_2).f1) t112) else (some false))) else (none)) else (none)) else (none)) = some r := by rw [if_neg (show ¬ (false = true) by decide)] at H; exact H
                                  clear H
                                  have H := H1
                                  clear H1
                                  by_cases c32 : 0 ≤ x6_2
                                  · rw [if_pos c32] at H
                                    have c32b0 := eq_true c32
                                    have c32b1 : decide (0 ≤ x6_2) = true := decide_eq_true c32
                                    clear c32
                                    by_cases c33 : x6_2 ≤ (wrap64 (x6_2 + ((rd_T70 l1 x8_2).f1)))
                                    · rw [if_pos c33] at H
                                      have c33b0 := eq_true c33
                                      have c33b1 : decide (x6_2 ≤ (wrap64 (x6_2 + ((rd_T70 l1 x8_2).f1)))) = true := decide_eq_true c33
                                      by_cases c34 : (wrap64 (x6_2 + ((rd_T70 l1 x8_2).f1))) ≤ (l0.length : Int)
                                      · rw [if_pos c34] at H
                                        have c34b0 := eq_true c34
                                        have c34b1 : decide ((wrap64 (x6_2 + ((rd_T70 l1 x8_2).f1))) ≤ (l0.length : Int)) = true := decide_eq_true c34
                                        replace H := Option.bind_eq_some_iff.mp H
                                        obtain ⟨t114, A350, H⟩ := H
                                        replace H : (if t114 = true then (polyglotlaw01_OctetReads.j4 kj17 l0 l1 x6_2 false x8_2 ((rd_T70 l1 x8_2).f1) t112) else (some false)) = some r := H
                                        have A35 := Aside0.mk A350
                                        clear A350
                                        by_cases c36 : t114 = true
                                        · subst c36
                                          have H1 : (polyglotlaw01_OctetReads.j4 kj17 l0 l1 x6_2 false x8_2 ((rd_T70 l1 x8_2).f1) t112) = some r := by rw [if_pos rfl] at H; exact H
                                          clear H
                                          have H := H1
                                          clear H1
                                          have H' := Aside0.mk H
                                          clear H
                                          go_wp2_with (first | ((with_reducible refine gate_callee (f := 37) rfl ?_); refine goesL_ (some 68) rfl rfl Try.func37 (by kernel_rfl) rfl #[.pointer (some ⟨g104, 0, none⟩), .int .i64 ((rd_T70 l1 x8_2).f1)] rfl (by (try simp only [List.map_toArray, List.map_cons, List.map_nil]); first | done | rfl | (simp only [List.length_drop, List.length_take]; rfl)) ?_; (with_reducible refine (octet_Reader_Take.calls g104 x105000_2 ((rd_T70 l1 x8_2).f1) t109 t112 w _ ?side1 ?side2 A25.out).mono ?_); (case side1 => repeat (first | (with_reducible first | exact HI104.out | apply IsS109.alloc | apply IsS109.drewN | apply IsS109.drew | apply IsS109.set_0) | exact HI104.out)); (case side2 => repeat (first | (with_reducible first | exact HB.out | apply below_alloc | apply pw_below_drewN | apply below_drew1 | refine below_set ?_ (IsS109.ge HI104.out)) | exact HB.out)); rintro e w37 ⟨v110, rfl, ho0, hi, hb, hk⟩; refine ⟨_, rfl, ?_⟩; have n0_ := Aside0.mk (Kd.R_lower ho0 (below_size (by repeat (first | (with_reducible first | exact HB.out | apply below_alloc | apply pw_below_drewN | apply below_drew1 | refine below_set ?_ (IsS109.ge HI104.out)) | exact HB.out)))); have n1_ := Aside0.mk (hb); have n2_ := Aside0.mk (hi); clear HB; clear HI104; have HO111 := n0_; have HB := n1_; have HI104 := n2_; clear n0_ n1_ n2_; (try clear hb); (try clear hb2); (try clear hk); (try clear hi); (try clear ho0); obtain ⟨i038, hi038, _, hsz38, _⟩ := info_parts info5; obtain ⟨A38, hcut38, hA38, hC38⟩ := print_mid_of (P := Try.prog) (Value.int .u8) 0 36 5 .i64 .i64 Try.underlying36 hi038 hsz38 A0 c0 l0 x6_2 (wrap64 (x6_2 + ((rd_T70 l1 x8_2).f1))) (of_decide_eq_true (by first | (with_reducible assumption) | assumption)) (by first | omega | exact of_decide_eq_true (by first | (with_reducible assumption) | assumption)) (of_decide_eq_true (by first | (with_reducible assumption) | assumption)) HC0.out; have HR113 := Aside0.mk (Kd.C_of_reads (h1 := fun _ => rfl) (hA38 _ (Kd.reads_of_C HR0.out))); have HC113 := Aside0.mk hC38; clear hA38 hC38 hi038 hsz38; obtain ⟨Ao39, co39, eo39⟩ := Kd.R_slice HO111.out; subst eo39) | (go_at_call 38; (try rw [show ((wrap64 (x6_2 + ((rd_T70 l1 x8_2).f1))) : Int).toNat - (x6_2 : Int).toNat = ((l0.take ((wrap64 (x6_2 + ((rd_T70 l1 x8_2).f1))) : Int).toNat).drop (x6_2 : Int).toNat).length from by rw [List.length_drop, List.length_take]; have h_ : ((wrap64 (x6_2 + ((rd_T70 l1 x8_2).f1))) : Int) ≤ (l0.length : Int) := of_decide_eq_true (by first | (with_reducible assumption) | assumption); omega]); (with_reducible refine (polyglotlaw01_same.calls _ _ t109 _ _ ((l0.take ((wrap64 (x6_2 + ((rd_T70 l1 x8_2).f1))) : Int).toNat).drop (x6_2 : Int).toNat) true _ ?side1 ?side2 ?side3 ?side4 A35.out).mono ?_); (case side1 => repeat (first | exact (Kd.R_reads' HO111.out).2.2 | (with_reducible refine Kd.C_alloc ?_ _) | (with_reducible refine Kd.C_drewN ?_ _) | (with_reducible refine Kd.C_drew ?_))); (case side2 => exact (Kd.R_reads' HO111.out).2.1); (case side3 => repeat (first | exact (Kd.C_below HR113.out HB.out) | (with_reducible refine Kd.C_alloc ?_ _) | (with_reducible refine Kd.C_drewN ?_ _) | (with_reducible refine Kd.C_drew ?_))); (case side4 => exact HC113.out); rintro e w' ⟨rfl, ⟨nd, rfl⟩⟩))
                                          go_meet
                                          case rel => exact ⟨_, (t112), H', ⟨by have := HJ2.out; have := HK2.out; have := HJ11.out; have := HJ17.out; first | omega | exact Nat.le_refl _⟩, ⟨by repeat (first | (with_reducible first | exact HI104.out | apply IsS109.alloc | apply IsS109.drewN | apply IsS109.drew | apply IsS109.set_0) | exact HI104.out)⟩, ⟨by repeat (first | (with_reducible first | exact HB.out | apply below_alloc | apply pw_below_drewN | apply below_drew1 | refine below_set ?_ (IsS109.ge HI104.out)) | exact HB.out)⟩⟩
                                        · replace c36 := Bool.eq_false_iff.mpr c36
                                          subst c36
                                          have H1 : (some false) = some r := by rw [if_neg (show ¬ (false = true) by decide)] at H; exact H
                                          clear H
                                          have H := H1
                                          clear H1
                                          obtain rfl := Option.some.inj H
                                          go_wp2_with (first | ((with_reducible refine gate_callee (f := 37) rfl ?_); refine goesL_ (some 68) rfl rfl Try.func37 (by kernel_rfl) rfl #[.pointer (some ⟨g104, 0, none⟩), .int .i64 ((rd_T70 l1 x8_2).f1)] rfl (by (try simp only [List.map_toArray, List.map_cons, List.map_nil]); first | done | rfl | (simp only [List.length_drop, List.length_take]; rfl)) ?_; (with_reducible refine (octet_Reader_Take.calls g104 x105000_2 ((rd_T70 l1 x8_2).f1) t109 t112 w _ ?side1 ?side2 A25.out).mono ?_); (case side1 => repeat (first | (with_reducible first | exact HI104.out | apply IsS109.alloc | apply IsS109.drewN | apply IsS109.drew | apply IsS109.set_0) | exact HI104.out)); (case side2 => repeat (first | (with_reducible first | exact HB.out | apply below_alloc | apply pw_below_drewN | apply below_drew1 | refine below_set ?_ (IsS109.ge HI104.out)) | exact HB.out)); rintro e w40 ⟨v110, rfl, ho0, hi, hb, hk⟩; refine ⟨_, rfl, ?_⟩; have n0_ := Aside0.mk (Kd.R_lower ho0 (below_size (by repeat (first | (with_reducible first | exact HB.out | apply below_alloc | apply pw_below_drewN | apply below_drew1 | refine below_set ?_ (IsS109.ge HI104.out)) | exact HB.out)))); have n1_ := Aside0.mk (hb); have n2_ := Aside0.mk (hi); clear HB; clear HI104; have HO111 := n0_; have HB := n1_; have HI104 := n2_; clear n0_ n1_ n2_; (try clear hb); (try clear hb2); (try clear hk); (try clear hi); (try clear ho0); obtain ⟨i041, hi041, _, hsz41, _⟩ := info_parts info5; obtain ⟨A41, hcut41, hA41, hC41⟩ := print_mid_of (P := Try.prog) (Value.int .u8) 0 36 5 .i64 .i64 Try.underlying36 hi041 hsz41 A0 c0 l0 x6_2 (wrap64 (x6_2 + ((rd_T70 l1 x8_2).f1))) (of_decide_eq_true (by first | (with_reducible assumption) | assumption)) (by first | omega | exact of_decide_eq_true (by first | (with_reducible assumption) | assumption)) (of_decide_eq_true (by first | (with_reducible assumption) | assumption)) HC0.out; have HR113 := Aside0.mk (Kd.C_of_reads (h1 := fun _ => rfl) (hA41 _ (Kd.reads_of_C HR0.out))); have HC113 := Aside0.mk hC41; clear hA41 hC41 hi041 hsz41; obtain ⟨Ao42, co42, eo42⟩ := Kd.R_slice HO111.out; subst eo42) | (go_at_call 38; (try rw [show ((wrap64 (x6_2 + ((rd_T70 l1 x8_2).f1))) : Int).toNat - (x6_2 : Int).toNat = ((l0.take ((wrap64 (x6_2 + ((rd_T70 l1 x8_2).f1))) : Int).toNat).drop (x6_2 : Int).toNat).length from by rw [List.length_drop, List.length_take]; have h_ : ((wrap64 (x6_2 + ((rd_T70 l1 x8_2).f1))) : Int) ≤ (l0.length : Int) := of_decide_eq_true (by first | (with_reducible assumption) | assumption); omega]); (with_reducible refine (polyglotlaw01_same.calls _ _ t109 _ _ ((l0.take ((wrap64 (x6_2 + ((rd_T70 l1 x8_2).f1))) : Int).toNat).drop (x6_2 : Int).toNat) false _ ?side1 ?side2 ?side3 ?side4 A35.out).mono ?_); (case side1 => repeat (first | exact (Kd.R_reads' HO111.out).2.2 | (with_reducible refine Kd.C_alloc ?_ _) | (with_reducible refine Kd.C_drewN ?_ _) | (with_reducible refine Kd.C_drew ?_))); (case side2 => exact (Kd.R_reads' HO111.out).2.1); (case side3 => repeat (first | exact (Kd.C_below HR113.out HB.out) | (with_reducible refine Kd.C_alloc ?_ _) | (with_reducible refine Kd.C_drewN ?_ _) | (with_reducible refine Kd.C_drew ?_))); (case side4 => exact HC113.out); rintro e w' ⟨rfl, ⟨nd, rfl⟩⟩))
                                          go_ret
                                          exact ⟨by first | rfl | (simp [errW_none, errW_some] <;> rfl) | (simp [*, errW_none, errW_some] <;> rfl), by repeat (first | (with_reducible first | exact HB.out | apply below_alloc | apply pw_below_drewN | apply below_drew1 | refine below_set ?_ (IsS109.ge HI104.out)) | exact HB.out)⟩
                                      · rw [if_neg c34] at H
                                        exact absurd H (by simp)
                                    · rw [if_neg c33] at H
                                      exact absurd H (by simp)
                                  · rw [if_neg c32] at H
                                    exact absurd H (by simp)
                              · replace c24 := Bool.eq_false_iff.mpr c24
                                subst c24
                                have H1 : ((octet_Reader_Num.f x105000_2 ((rd_T70 l1 x8_2).f1)).bind fun bt115 => (if x7_17 = true then (if bt115.1 = 0 then (polyglotlaw01_OctetReads.j4 kj17 l0 l1 x6_2 x7_17 x8_2 ((rd_T70 l1 x8_2).f1) bt115.2) else (some false)) else (if 0 ≤ x6_2 then (if x6_2 ≤ (wrap64 (x6_2 + ((rd_T70 l1 x8_2).f1))) then (if (wrap64 (x6_2 + ((rd_T70 l1 x8_2).f1))) ≤ (l0.length : Int) then ((polyglotlaw01_number.f kj17 ((l0.take ((wrap64 (x6_2 + ((rd_T70 l1 x8_2).f1))) : Int).toNat).drop (x6_2 : Int).toNat)).bind fun t118 => (if bt115.1 = t118 then (polyglotlaw01_OctetReads.j4 kj17 l0 l1 x6_2 x7_17 x8_2 ((rd_T70 l1 x8_2).f1) bt115.2) else (some false))) else (none)) else (none)) else (none)))) = some r := by rw [if_neg (show ¬ (false = true) by decide)] at H; exact H
                                clear H
                                have H := H1
                                clear H1
                                replace H := Option.bind_eq_some_iff.mp H
                                obtain ⟨⟨t115, t116⟩, A430, H⟩ := H
                                replace H : (if x7_17 = true then (if t115 = 0 then (polyglotlaw01_OctetReads.j4 kj17 l0 l1 x6_2 x7_17 x8_2 ((rd_T70 l1 x8_2).f1) t116) else (some false)) else (if 0 ≤ x6_2 then (if x6_2 ≤ (wrap64 (x6_2 + ((rd_T70 l1 x8_2).f1))) then (if (wrap64 (x6_2 + ((rd_T70 l1 x8_2).f1))) ≤ (l0.length : Int) then ((polyglotlaw01_number.f kj17 ((l0.take ((wrap64 (x6_2 + ((rd_T70 l1 x8_2).f1))) : Int).toNat).drop (x6_2 : Int).toNat)).bind fun t118 => (if t115 = t118 then (polyglotlaw01_OctetReads.j4 kj17 l0 l1 x6_2 x7_17 x8_2 ((rd_T70 l1 x8_2).f1) t116) else (some false))) else (none)) else (none)) else (none))) = some r := H
                                have A43 := Aside0.mk A430
                                clear A430
                                by_cases c44 : x7_17 = true
                                · subst c44
                                  have H1 : (if t115 = 0 then (polyglotlaw01_OctetReads.j4 kj17 l0 l1 x6_2 true x8_2 ((rd_T70 l1 x8_2).f1) t116) else (some false)) = some r := by rw [if_pos rfl] at H; exact H
                                  clear H
                                  have H := H1
                                  clear H1
                                  by_cases c45 : t115 = 0
                                  · rw [if_pos c45] at H
                                    have c45b0 : (t115 == 0) = true := beq_iff_eq.mpr c45
                                    have c45b1 : (t115 != 0) = false := bne_eq_false_iff_eq.mpr c45
                                    clear c45
                                    have H' := Aside0.mk H
                                    clear H
                                    go_wp2_with (first | ((with_reducible refine gate_callee (f := 39) rfl ?_); refine goesL_ (some 92) rfl rfl Try.func39 (by kernel_rfl) rfl #[.pointer (some ⟨g104, 0, none⟩), .int .i64 ((rd_T70 l1 x8_2).f1)] rfl (by (try simp only [List.map_toArray, List.map_cons, List.map_nil]); first | done | rfl | (simp only [List.length_drop, List.length_take]; rfl)) ?_; (with_reducible refine (octet_Reader_Num.calls g104 x105000_2 ((rd_T70 l1 x8_2).f1) t115 t116 w _ ?side1 ?side2 A43.out).mono ?_); (case side1 => repeat (first | (with_reducible first | exact HI104.out | apply IsS109.alloc | apply IsS109.drewN | apply IsS109.drew | apply IsS109.set_0) | exact HI104.out)); (case side2 => repeat (first | (with_reducible first | exact HB.out | apply below_alloc | apply pw_below_drewN | apply below_drew1 | refine below_set ?_ (IsS109.ge HI104.out)) | exact HB.out)); rintro e w46 ⟨rfl, hi, hb, hk⟩; refine ⟨_, rfl, ?_⟩; have n0_ := Aside0.mk (hb); have n1_ := Aside0.mk (hi); clear HB; clear HI104; have HB := n0_; have HI104 := n1_; clear n0_ n1_; (try clear hb); (try clear hb2); (try clear hk); (try clear hi)))
                                    go_meet
                                    case rel => exact ⟨_, (t116), H', ⟨by have := HJ2.out; have := HK2.out; have := HJ11.out; have := HJ17.out; first | omega | exact Nat.le_refl _⟩, ⟨by repeat (first | (with_reducible first | exact HI104.out | apply IsS109.alloc | apply IsS109.drewN | apply IsS109.drew | apply IsS109.set_0) | exact HI104.out)⟩, ⟨by repeat (first | (with_reducible first | exact HB.out | apply below_alloc | apply pw_below_drewN | apply below_drew1 | refine below_set ?_ (IsS109.ge HI104.out)) | exact HB.out)⟩⟩
                                  · rw [if_neg c45] at H
                                    have c45b0 : (t115 == 0) = false := beq_eq_false_iff_ne.mpr c45
                                    have c45b1 : (t115 != 0) = true := bne_iff_ne.mpr c45
                                    obtain rfl := Option.some.inj H
                                    go_wp2_with (first | ((with_reducible refine gate_callee (f := 39) rfl ?_); refine goesL_ (some 92) rfl rfl Try.func39 (by kernel_rfl) rfl #[.pointer (some ⟨g104, 0, none⟩), .int .i64 ((rd_T70 l1 x8_2).f1)] rfl (by (try simp only [List.map_toArray, List.map_cons, List.map_nil]); first | done | rfl | (simp only [List.length_drop, List.length_take]; rfl)) ?_; (with_reducible refine (octet_Reader_Num.calls g104 x105000_2 ((rd_T70 l1 x8_2).f1) t115 t116 w _ ?side1 ?side2 A43.out).mono ?_); (case side1 => repeat (first | (with_reducible first | exact HI104.out | apply IsS109.alloc | apply IsS109.drewN | apply IsS109.drew | apply IsS109.set_0) | exact HI104.out)); (case side2 => repeat (first | (with_reducible first | exact HB.out | apply below_alloc | apply pw_below_drewN | apply below_drew1 | refine below_set ?_ (IsS109.ge HI104.out)) | exact HB.out)); rintro e w47 ⟨rfl, hi, hb, hk⟩; refine ⟨_, rfl, ?_⟩; have n0_ := Aside0.mk (hb); have n1_ := Aside0.mk (hi); clear HB; clear HI104; have HB := n0_; have HI104 := n1_; clear n0_ n1_; (try clear hb); (try clear hb2); (try clear hk); (try clear hi)))
                                    go_ret
                                    exact ⟨by first | rfl | (simp [errW_none, errW_some] <;> rfl) | (simp [*, errW_none, errW_some] <;> rfl), by repeat (first | (with_reducible first | exact HB.out | apply below_alloc | apply pw_below_drewN | apply below_drew1 | refine below_set ?_ (IsS109.ge HI104.out)) | exact HB.out)⟩
                                · replace c44 := Bool.eq_false_iff.mpr c44
                                  subst c44
                                  have H1 : (if 0 ≤ x6_2 then (if x6_2 ≤ (wrap64 (x6_2 + ((rd_T70 l1 x8_2).f1))) then (if (wrap64 (x6_2 + ((rd_T70 l1 x8_2).f1))) ≤ (l0.length : Int) then ((polyglotlaw01_number.f kj17 ((l0.take ((wrap64 (x6_2 + ((rd_T70 l1 x8_2).f1))) : Int).toNat).drop (x6_2 : Int).toNat)).bind fun t118 => (if t115 = t118 then (polyglotlaw01_OctetReads.j4 kj17 l0 l1 x6_2 false x8_2 ((rd_T70 l1 x8_2).f1) t116) else (some false))) else (none)) else (none)) else (none)) = some r := by rw [if_neg (show ¬ (false = true) by decide)] at H; exact H
                                  clear H
                                  have H := H1
                                  clear H1
                                  by_cases c48 : 0 ≤ x6_2
                                  · rw [if_pos c48] at H
                                    have c48b0 := eq_true c48
                                    have c48b1 : decide (0 ≤ x6_2) = true := decide_eq_true c48
                                    clear c48
                                    by_cases c49 : x6_2 ≤ (wrap64 (x6_2 + ((rd_T70 l1 x8_2).f1)))
                                    · rw [if_pos c49] at H
                                      have c49b0 := eq_true c49
                                      have c49b1 : decide (x6_2 ≤ (wrap64 (x6_2 + ((rd_T70 l1 x8_2).f1)))) = true := decide_eq_true c49
                                      by_cases c50 : (wrap64 (x6_2 + ((rd_T70 l1 x8_2).f1))) ≤ (l0.length : Int)
                                      · rw [if_pos c50] at H
                                        have c50b0 := eq_true c50
                                        have c50b1 : decide ((wrap64 (x6_2 + ((rd_T70 l1 x8_2).f1))) ≤ (l0.length : Int)) = true := decide_eq_true c50
                                        replace H := Option.bind_eq_some_iff.mp H
                                        obtain ⟨t118, A510, H⟩ := H
                                        replace H : (if t115 = t118 then (polyglotlaw01_OctetReads.j4 kj17 l0 l1 x6_2 false x8_2 ((rd_T70 l1 x8_2).f1) t116) else (some false)) = some r := H
                                        have A51 := Aside0.mk A510
                                        clear A510
                                        by_cases c52 : t115 = t118
                                        · rw [if_pos c52] at H
                                          have c52b0 : (t115 == t118) = true := beq_iff_eq.mpr c52
                                          have c52b1 : (t115 != t118) = false := bne_eq_false_iff_eq.mpr c52
                                          clear c52
                                          have H' := Aside0.mk H
                                          clear H
                                          go_wp2_with (first | ((with_reducible refine gate_callee (f := 39) rfl ?_); refine goesL_ (some 92) rfl rfl Try.func39 (by kernel_rfl) rfl #[.pointer (some ⟨g104, 0, none⟩), .int .i64 ((rd_T70 l1 x8_2).f1)] rfl (by (try simp only [List.map_toArray, List.map_cons, List.map_nil]); first | done | rfl | (simp only [List.length_drop, List.length_take]; rfl)) ?_; (with_reducible refine (octet_Reader_Num.calls g104 x105000_2 ((rd_T70 l1 x8_2).f1) t115 t116 w _ ?side1 ?side2 A43.out).mono ?_); (case side1 => repeat (first | (with_reducible first | exact HI104.out | apply IsS109.alloc | apply IsS109.drewN | apply IsS109.drew | apply IsS109.set_0) | exact HI104.out)); (case side2 => repeat (first | (with_reducible first | exact HB.out | apply below_alloc | apply pw_below_drewN | apply below_drew1 | refine below_set ?_ (IsS109.ge HI104.out)) | exact HB.out)); rintro e w53 ⟨rfl, hi, hb, hk⟩; refine ⟨_, rfl, ?_⟩; have n0_ := Aside0.mk (hb); have n1_ := Aside0.mk (hi); clear HB; clear HI104; have HB := n0_; have HI104 := n1_; clear n0_ n1_; (try clear hb); (try clear hb2); (try clear hk); (try clear hi); obtain ⟨i054, hi054, _, hsz54, _⟩ := info_parts info5; obtain ⟨A54, hcut54, hA54, hC54⟩ := print_mid_of (P := Try.prog) (Value.int .u8) 0 36 5 .i64 .i64 Try.underlying36 hi054 hsz54 A0 c0 l0 x6_2 (wrap64 (x6_2 + ((rd_T70 l1 x8_2).f1))) (of_decide_eq_true (by first | (with_reducible assumption) | assumption)) (by first | omega | exact of_decide_eq_true (by first | (with_reducible assumption) | assumption)) (of_decide_eq_true (by first | (with_reducible assumption) | assumption)) HC0.out; have HR117 := Aside0.mk (Kd.C_of_reads (h1 := fun _ => rfl) (hA54 _ (Kd.reads_of_C HR0.out))); have HC117 := Aside0.mk hC54; clear hA54 hC54 hi054 hsz54) | (go_at_call 40; (try rw [show ((wrap64 (x6_2 + ((rd_T70 l1 x8_2).f1))) : Int).toNat - (x6_2 : Int).toNat = ((l0.take ((wrap64 (x6_2 + ((rd_T70 l1 x8_2).f1))) : Int).toNat).drop (x6_2 : Int).toNat).length from by rw [List.length_drop, List.length_take]; have h_ : ((wrap64 (x6_2 + ((rd_T70 l1 x8_2).f1))) : Int) ≤ (l0.length : Int) := of_decide_eq_true (by first | (with_reducible assumption) | assumption); omega]); (with_reducible refine (polyglotlaw01_number.calls kj17 _ _ ((l0.take ((wrap64 (x6_2 + ((rd_T70 l1 x8_2).f1))) : Int).toNat).drop (x6_2 : Int).toNat) t118 _ ?side1 ?side2 A51.out).mono ?_); (case side1 => repeat (first | exact (Kd.C_below HR117.out HB.out) | (with_reducible refine Kd.C_alloc ?_ _) | (with_reducible refine Kd.C_drewN ?_ _) | (with_reducible refine Kd.C_drew ?_))); (case side2 => exact HC117.out); rintro e w' ⟨rfl, ⟨nd, rfl⟩⟩))
                                          go_meet
                                          case rel => exact ⟨_, (t116), H', ⟨by have := HJ2.out; have := HK2.out; have := HJ11.out; have := HJ17.out; first | omega | exact Nat.le_refl _⟩, ⟨by repeat (first | (with_reducible first | exact HI104.out | apply IsS109.alloc | apply IsS109.drewN | apply IsS109.drew | apply IsS109.set_0) | exact HI104.out)⟩, ⟨by repeat (first | (with_reducible first | exact HB.out | apply below_alloc | apply pw_below_drewN | apply below_drew1 | refine below_set ?_ (IsS109.ge HI104.out)) | exact HB.out)⟩⟩
                                        · rw [if_neg c52] at H
                                          have c52b0 : (t115 == t118) = false := beq_eq_false_iff_ne.mpr c52
                                          have c52b1 : (t115 != t118) = true := bne_iff_ne.mpr c52
                                          obtain rfl := Option.some.inj H
                                          go_wp2_with (first | ((with_reducible refine gate_callee (f := 39) rfl ?_); refine goesL_ (some 92) rfl rfl Try.func39 (by kernel_rfl) rfl #[.pointer (some ⟨g104, 0, none⟩), .int .i64 ((rd_T70 l1 x8_2).f1)] rfl (by (try simp only [List.map_toArray, List.map_cons, List.map_nil]); first | done | rfl | (simp only [List.length_drop, List.length_take]; rfl)) ?_; (with_reducible refine (octet_Reader_Num.calls g104 x105000_2 ((rd_T70 l1 x8_2).f1) t115 t116 w _ ?side1 ?side2 A43.out).mono ?_); (case side1 => repeat (first | (with_reducible first | exact HI104.out | apply IsS109.alloc | apply IsS109.drewN | apply IsS109.drew | apply IsS109.set_0) | exact HI104.out)); (case side2 => repeat (first | (with_reducible first | exact HB.out | apply below_alloc | apply pw_below_drewN | apply below_drew1 | refine below_set ?_ (IsS109.ge HI104.out)) | exact HB.out)); rintro e w55 ⟨rfl, hi, hb, hk⟩; refine ⟨_, rfl, ?_⟩; have n0_ := Aside0.mk (hb); have n1_ := Aside0.mk (hi); clear HB; clear HI104; have HB := n0_; have HI104 := n1_; clear n0_ n1_; (try clear hb); (try clear hb2); (try clear hk); (try clear hi); obtain ⟨i056, hi056, _, hsz56, _⟩ := info_parts info5; obtain ⟨A56, hcut56, hA56, hC56⟩ := print_mid_of (P := Try.prog) (Value.int .u8) 0 36 5 .i64 .i64 Try.underlying36 hi056 hsz56 A0 c0 l0 x6_2 (wrap64 (x6_2 + ((rd_T70 l1 x8_2).f1))) (of_decide_eq_true (by first | (with_reducible assumption) | assumption)) (by first | omega | exact of_decide_eq_true (by first | (with_reducible assumption) | assumption)) (of_decide_eq_true (by first | (with_reducible assumption) | assumption)) HC0.out; have HR117 := Aside0.mk (Kd.C_of_reads (h1 := fun _ => rfl) (hA56 _ (Kd.reads_of_C HR0.out))); have HC117 := Aside0.mk hC56; clear hA56 hC56 hi056 hsz56) | (go_at_call 40; (try rw [show ((wrap64 (x6_2 + ((rd_T70 l1 x8_2).f1))) : Int).toNat - (x6_2 : Int).toNat = ((l0.take ((wrap64 (x6_2 + ((rd_T70 l1 x8_2).f1))) : Int).toNat).drop (x6_2 : Int).toNat).length from by rw [List.length_drop, List.length_take]; have h_ : ((wrap64 (x6_2 + ((rd_T70 l1 x8_2).f1))) : Int) ≤ (l0.length : Int) := of_decide_eq_true (by first | (with_reducible assumption) | assumption); omega]); (with_reducible refine (polyglotlaw01_number.calls kj17 _ _ ((l0.take ((wrap64 (x6_2 + ((rd_T70 l1 x8_2).f1))) : Int).toNat).drop (x6_2 : Int).toNat) t118 _ ?side1 ?side2 A51.out).mono ?_); (case side1 => repeat (first | exact (Kd.C_below HR117.out HB.out) | (with_reducible refine Kd.C_alloc ?_ _) | (with_reducible refine Kd.C_drewN ?_ _) | (with_reducible refine Kd.C_drew ?_))); (case side2 => exact HC117.out); rintro e w' ⟨rfl, ⟨nd, rfl⟩⟩))
                                          go_ret
                                          exact ⟨by first | rfl | (simp [errW_none, errW_some] <;> rfl) | (simp [*, errW_none, errW_some] <;> rfl), by repeat (first | (with_reducible first | exact HB.out | apply below_alloc | apply pw_below_drewN | apply below_drew1 | refine below_set ?_ (IsS109.ge HI104.out)) | exact HB.out)⟩
                                      · rw [if_neg c50] at H
                                        exact absurd H (by simp)
                                    · rw [if_neg c49] at H
                                      exact absurd H (by simp)
                                  · rw [if_neg c48] at H
                                    exact absurd H (by simp)
                            case rest =>
                              clear HC22
                              try clear c1
                              try clear p1
                              try clear q1
                              try clear hx1
                              try clear c2
                              try clear p2
                              try clear q2
                              try clear c3
                              try clear c4
                              try clear c4b0
                              try clear c4b1
                              try clear c5
                              try clear p6
                              try clear c10
                              try clear c10b0
                              try clear p10
                              try clear q10
                              try clear hx10
                              try clear c11
                              try clear c11b0
                              try clear c13
                              try clear c13b0
                              try clear c14
                              try clear c14b0
                              try clear q15
                              try clear c16
                              try clear c17
                              try clear c17b0
                              try clear c19
                              try clear c20
                              try clear c20b0
                              try clear c21
                              try clear c21b0
                              try clear q23
                              try clear c24
                              try clear c26
                              try clear c27
                              try clear c27b0
                              try clear c27b1
                              try clear c27b2
                              try clear c32
                              try clear c32b0
                              try clear c32b1
                              try clear c33
                              try clear c33b0
                              try clear c33b1
                              try clear c34
                              try clear c34b0
                              try clear c34b1
                              try clear c35
                              try clear c36
                              try clear c37
                              try clear c39
                              try clear c44
                              try clear c45
                              try clear c45b0
                              try clear c45b1
                              try clear c48
                              try clear c48b0
                              try clear c48b1
                              try clear c49
                              try clear c49b0
                              try clear c49b1
                              try clear c50
                              try clear c50b0
                              try clear c50b1
                              try clear c52
                              try clear c52b0
                              try clear c52b1
                              try clear hx106_0
                              try clear hx106_1
                              try clear hx107_0
                              try clear hx107_1
                              try clear hx108_0
                              try clear hx108_1
                              try clear p1
                              try clear p10
                              try clear p106
                              try clear p107
                              try clear p108
                              try clear p2
                              try clear p6
                              try clear q1
                              try clear q10
                              try clear q106
                              try clear q107
                              try clear q108
                              try clear q15
                              obtain ⟨kq, x105000_21, HA, HJ21, HI104, HB⟩ := hcut
                              cases kq with
                              | zero => exact absurd HA.out (by simp [polyglotlaw01_OctetReads.j4])
                              | succ kj21 =>
                                have H := HA.out
                                clear HA
                                simp only [polyglotlaw01_OctetReads.j4] at H
                                have HC57 := Aside0.mk H
                                clear H
                                go_upto_if 114 with (fail)
                                go_cut [6] (fun v6 wc => ∃ (kq : Nat) (x6_56 : Int), v6 = .int .i64 x6_56 ∧ Aside0 (polyglotlaw01_OctetReads.j5 kq l0 l1 x6_56 x7_17 x8_2 x105000_21 = some r) ∧ Aside0 (kq ≤ kj21) ∧ Aside0 (IsS109 w wc g104 x105000_21) ∧ Aside0 (Below w.heap.size w wc))
                                case first =>
                                  have H := HC57.out
                                  clear HC57
                                  by_cases c58 : x7_17 = true
                                  · subst c58
                                    have H1 : (polyglotlaw01_OctetReads.j5 kj21 l0 l1 x6_2 true x8_2 x105000_21) = some r := by rw [if_pos rfl] at H; exact H
                                    clear H
                                    have H := H1
                                    clear H1
                                    have H' := Aside0.mk H
                                    clear H
                                    go_wp2
                                    go_meet
                                    case rel => exact ⟨_, (x6_2), (by first | rfl | (simp; done) | (simp [*]; done)), H', ⟨by have := HJ2.out; have := HK2.out; have := HJ11.out; have := HJ17.out; have := HJ21.out; first | omega | exact Nat.le_refl _⟩, ⟨by repeat (first | (with_reducible first | exact HI104.out | apply IsS109.alloc | apply IsS109.drewN | apply IsS109.drew | apply IsS109.set_0) | exact HI104.out)⟩, ⟨by repeat (first | (with_reducible first | exact HB.out | apply below_alloc | apply pw_below_drewN | apply below_drew1 | refine below_set ?_ (IsS109.ge HI104.out)) | exact HB.out)⟩⟩
                                  · replace c58 := Bool.eq_false_iff.mpr c58
                                    subst c58
                                    have H1 : (polyglotlaw01_OctetReads.j5 kj21 l0 l1 (wrap64 (x6_2 + ((rd_T70 l1 x8_2).f1))) false x8_2 x105000_21) = some r := by rw [if_neg (show ¬ (false = true) by decide)] at H; exact H
                                    clear H
                                    have H := H1
                                    clear H1
                                    have H' := Aside0.mk H
                                    clear H
                                    go_wp2
                                    go_meet
                                    case rel => exact ⟨_, (wrap64 (x6_2 + ((rd_T70 l1 x8_2).f1))), (by first | rfl | (simp; done) | (simp [*]; done)), H', ⟨by have := HJ2.out; have := HK2.out; have := HJ11.out; have := HJ17.out; have := HJ21.out; first | omega | exact Nat.le_refl _⟩, ⟨by repeat (first | (with_reducible first | exact HI104.out | apply IsS109.alloc | apply IsS109.drewN | apply IsS109.drew | apply IsS109.set_0) | exact HI104.out)⟩, ⟨by repeat (first | (with_reducible first | exact HB.out | apply below_alloc | apply pw_below_drewN | apply below_drew1 | refine below_set ?_ (IsS109.ge HI104.out)) | exact HB.out)⟩⟩
                                case rest =>
                                  clear HC57
                                  try clear c1
                                  try clear p1
                                  try clear q1
                                  try clear hx1
                                  try clear c2
                                  try clear p2
                                  try clear q2
                                  try clear c3
                                  try clear c4
                                  try clear c4b0
                                  try clear c4b1
                                  try clear c5
                                  try clear p6
                                  try clear c10
                                  try clear c10b0
                                  try clear p10
                                  try clear q10
                                  try clear hx10
                                  try clear c11
                                  try clear c11b0
                                  try clear c13
                                  try clear c13b0
                                  try clear c14
                                  try clear c14b0
                                  try clear q15
                                  try clear c16
                                  try clear c17
                                  try clear c17b0
                                  try clear c19
                                  try clear c20
                                  try clear c20b0
                                  try clear c21
                                  try clear c21b0
                                  try clear q23
                                  try clear c24
                                  try clear c26
                                  try clear c27
                                  try clear c27b0
                                  try clear c27b1
                                  try clear c27b2
                                  try clear c32
                                  try clear c32b0
                                  try clear c32b1
                                  try clear c33
                                  try clear c33b0
                                  try clear c33b1
                                  try clear c34
                                  try clear c34b0
                                  try clear c34b1
                                  try clear c35
                                  try clear c36
                                  try clear c37
                                  try clear c39
                                  try clear c44
                                  try clear c45
                                  try clear c45b0
                                  try clear c45b1
                                  try clear c48
                                  try clear c48b0
                                  try clear c48b1
                                  try clear c49
                                  try clear c49b0
                                  try clear c49b1
                                  try clear c50
                                  try clear c50b0
                                  try clear c50b1
                                  try clear c52
                                  try clear c52b0
                                  try clear c52b1
                                  try clear c58
                                  try clear hx106_0
                                  try clear hx106_1
                                  try clear hx107_0
                                  try clear hx107_1
                                  try clear hx108_0
                                  try clear hx108_1
                                  try clear p1
                                  try clear p10
                                  try clear p106
                                  try clear p107
                                  try clear p108
                                  try clear p2
                                  try clear p6
                                  try clear q1
                                  try clear q10
                                  try clear q106
                                  try clear q107
                                  try clear q108
                                  try clear q15
                                  try clear q2
                                  try clear q23
                                  obtain ⟨kq, x6_56, rfl, HA, HJ56, HI104, HB⟩ := hcut
                                  cases kq with
                                  | zero => exact absurd HA.out (by simp [polyglotlaw01_OctetReads.j5])
                                  | succ kj56 =>
                                    have H := HA.out
                                    clear HA
                                    simp only [polyglotlaw01_OctetReads.j5] at H
                                    have HC59 := Aside0.mk H
                                    clear H
                                    go_upto_if 122 with (fail)
                                    go_cut [12] (fun v12 wc => ∃ (kq : Nat) (x12_58 : Int), v12 = .int .i64 x12_58 ∧ Aside0 (polyglotlaw01_OctetReads.j6 kq l0 l1 x6_56 x7_17 x8_2 x12_58 x105000_21 = some r) ∧ Aside0 (kq ≤ kj56) ∧ Aside0 (IsS109 w wc g104 x105000_21) ∧ Aside0 (Below w.heap.size w wc))
                                    case first =>
                                      have H := HC59.out
                                      clear HC59
                                      by_cases c60 : x7_17 = true
                                      · subst c60
                                        have H1 : (polyglotlaw01_OctetReads.j6 kj56 l0 l1 x6_56 true x8_2 0 x105000_21) = some r := by rw [if_pos rfl] at H; exact H
                                        clear H
                                        have H := H1
                                        clear H1
                                        have H' := Aside0.mk H
                                        clear H
                                        go_wp2
                                        go_meet
                                        case rel => exact ⟨_, (0), (by first | rfl | (simp; done) | (simp [*]; done)), H', ⟨by have := HJ2.out; have := HK2.out; have := HJ11.out; have := HJ17.out; have := HJ21.out; have := HJ56.out; first | omega | exact Nat.le_refl _⟩, ⟨by repeat (first | (with_reducible first | exact HI104.out | apply IsS109.alloc | apply IsS109.drewN | apply IsS109.drew | apply IsS109.set_0) | exact HI104.out)⟩, ⟨by repeat (first | (with_reducible first | exact HB.out | apply below_alloc | apply pw_below_drewN | apply below_drew1 | refine below_set ?_ (IsS109.ge HI104.out)) | exact HB.out)⟩⟩
                                      · replace c60 := Bool.eq_false_iff.mpr c60
                                        subst c60
                                        have H1 : (polyglotlaw01_OctetReads.j6 kj56 l0 l1 x6_56 false x8_2 (wrap64 ((l0.length : Int) - x6_56)) x105000_21) = some r := by rw [if_neg (show ¬ (false = true) by decide)] at H; exact H
                                        clear H
                                        have H := H1
                                        clear H1
                                        have H' := Aside0.mk H
                                        clear H
                                        go_wp2
                                        go_meet
                                        case rel => exact ⟨_, (wrap64 ((l0.length : Int) - x6_56)), (by first | rfl | (simp; done) | (simp [*]; done)), H', ⟨by have := HJ2.out; have := HK2.out; have := HJ11.out; have := HJ17.out; have := HJ21.out; have := HJ56.out; first | omega | exact Nat.le_refl _⟩, ⟨by repeat (first | (with_reducible first | exact HI104.out | apply IsS109.alloc | apply IsS109.drewN | apply IsS109.drew | apply IsS109.set_0) | exact HI104.out)⟩, ⟨by repeat (first | (with_reducible first | exact HB.out | apply below_alloc | apply pw_below_drewN | apply below_drew1 | refine below_set ?_ (IsS109.ge HI104.out)) | exact HB.out)⟩⟩
                                    case rest =>
                                      clear HC59
                                      try clear c1
                                      try clear p1
                                      try clear q1
                                      try clear hx1
                                      try clear c2
                                      try clear p2
                                      try clear q2
                                      try clear c3
                                      try clear c4
                                      try clear c4b0
                                      try clear c4b1
                                      try clear c5
                                      try clear c6
                                      try clear p6
                                      try clear c10
                                      try clear c10b0
                                      try clear p10
                                      try clear q10
                                      try clear hx10
                                      try clear c11
                                      try clear c11b0
                                      try clear c13
                                      try clear c13b0
                                      try clear c14
                                      try clear c14b0
                                      try clear q15
                                      try clear c16
                                      try clear c17
                                      try clear c17b0
                                      try clear c19
                                      try clear c20
                                      try clear c20b0
                                      try clear c21
                                      try clear c21b0
                                      try clear q23
                                      try clear c24
                                      try clear c26
                                      try clear c27
                                      try clear c27b0
                                      try clear c27b1
                                      try clear c27b2
                                      try clear c32
                                      try clear c32b0
                                      try clear c32b1
                                      try clear c33
                                      try clear c33b0
                                      try clear c33b1
                                      try clear c34
                                      try clear c34b0
                                      try clear c34b1
                                      try clear c35
                                      try clear c36
                                      try clear c37
                                      try clear c39
                                      try clear c44
                                      try clear c45
                                      try clear c45b0
                                      try clear c45b1
                                      try clear c48
                                      try clear c48b0
                                      try clear c48b1
                                      try clear c49
                                      try clear c49b0
                                      try clear c49b1
                                      try clear c50
                                      try clear c50b0
                                      try clear c50b1
                                      try clear c52
                                      try clear c52b0
                                      try clear c52b1
                                      try clear c58
                                      try clear c60
                                      try clear hx106_0
                                      try clear hx106_1
                                      try clear hx107_0
                                      try clear hx107_1
                                      try clear hx108_0
                                      try clear hx108_1
                                      try clear p1
                                      try clear p10
                                      try clear p106
                                      try clear p107
                                      try clear p108
                                      try clear p2
                                      try clear p6
                                      try clear q1
                                      try clear q10
                                      try clear q106
                                      try clear q107
                                      try clear q108
                                      try clear q15
                                      try clear q2
                                      try clear q23
                                      obtain ⟨kq, x12_58, rfl, HA, HJ58, HI104, HB⟩ := hcut
                                      cases kq with
                                      | zero => exact absurd HA.out (by simp [polyglotlaw01_OctetReads.j6])
                                      | succ kj58 =>
                                        have H := HA.out
                                        clear HA
                                        simp only [polyglotlaw01_OctetReads.j6] at H
                                        replace H := Option.bind_eq_some_iff.mp H
                                        obtain ⟨⟨t119, t120⟩, A610, H⟩ := H
                                        replace H : (if t119 = x12_58 then ((octet_Reader_Bad.f t120).bind fun bt121 => (if (bt121.1 != x7_17) = true then (some false) else ((octet_Reader_Done.f bt121.2).bind fun bt123 => (if x7_17 = true then (if (bt123.1 != false) = true then (some false) else (polyglotlaw01_OctetReads.l0 kj58 l0 l1 x6_56 x7_17 (wrap64 (x8_2 + 1)) bt123.2)) else (if (bt123.1 != (x12_58 == 0)) = true then (some false) else (polyglotlaw01_OctetReads.l0 kj58 l0 l1 x6_56 x7_17 (wrap64 (x8_2 + 1)) bt123.2)))))) else (some false)) = some r := H
                                        have A61 := Aside0.mk A610
                                        clear A610
                                        by_cases c62 : t119 = x12_58
                                        · rw [if_pos c62] at H
                                          have c62b0 : (t119 == x12_58) = true := beq_iff_eq.mpr c62
                                          have c62b1 : (t119 != x12_58) = false := bne_eq_false_iff_eq.mpr c62
                                          clear c62
                                          replace H := Option.bind_eq_some_iff.mp H
                                          obtain ⟨⟨t121, t122⟩, A630, H⟩ := H
                                          replace H : (if (t121 != x7_17) = true then (some false) else ((octet_Reader_Done.f t122).bind fun bt123 => (if x7_17 = true then (if (bt123.1 != false) = true then (some false) else (polyglotlaw01_OctetReads.l0 kj58 l0 l1 x6_56 x7_17 (wrap64 (x8_2 + 1)) bt123.2)) else (if (bt123.1 != (x12_58 == 0)) = true then (some false) else (polyglotlaw01_OctetReads.l0 kj58 l0 l1 x6_56 x7_17 (wrap64 (x8_2 + 1)) bt123.2))))) = some r := H
                                          have A63 := Aside0.mk A630
                                          clear A630
                                          by_cases c64 : (t121 != x7_17) = true
                                          · rw [if_pos c64] at H
                                            have c64b0 : (t121 != x7_17) = true := c64
                                            (try (have c64b1 : decide (t121 = x7_17) = false := by simpa using c64))
                                            (try (have c64b2 : (t121 == x7_17) = false := by simpa using c64))
                                            (try (have c64b3 : ¬ (t121 = x7_17) := by simpa using c64))
                                            clear c64
                                            obtain rfl := Option.some.inj H
                                            go_wp2_with (first | ((with_reducible refine gate_callee (f := 41) rfl ?_); refine goesL_ (some 124) rfl rfl Try.func41 (by kernel_rfl) rfl #[.pointer (some ⟨g104, 0, none⟩)] rfl (by (try simp only [List.map_toArray, List.map_cons, List.map_nil]); first | done | rfl | (simp only [List.length_drop, List.length_take]; rfl)) ?_; (with_reducible refine (octet_Reader_Left.calls g104 x105000_21 t119 t120 w _ ?side1 ?side2 A61.out).mono ?_); (case side1 => repeat (first | (with_reducible first | exact HI104.out | apply IsS109.alloc | apply IsS109.drewN | apply IsS109.drew | apply IsS109.set_0) | exact HI104.out)); (case side2 => repeat (first | (with_reducible first | exact HB.out | apply below_alloc | apply pw_below_drewN | apply below_drew1 | refine below_set ?_ (IsS109.ge HI104.out)) | exact HB.out)); rintro e w65 ⟨rfl, hi, hb, hk⟩; refine ⟨_, rfl, ?_⟩; have n0_ := Aside0.mk (hb); have n1_ := Aside0.mk (hi); clear HB; clear HI104; have HB := n0_; have HI104 := n1_; clear n0_ n1_; (try clear hb); (try clear hb2); (try clear hk); (try clear hi)) | (go_at_call 42; (with_reducible refine (octet_Reader_Bad.calls g104 t120 t121 t122 w _ ?side1 ?side2 A63.out).mono ?_); (case side1 => repeat (first | (with_reducible first | exact HI104.out | apply IsS109.alloc | apply IsS109.drewN | apply IsS109.drew | apply IsS109.set_0) | exact HI104.out)); (case side2 => repeat (first | (with_reducible first | exact HB.out | apply below_alloc | apply pw_below_drewN | apply below_drew1 | refine below_set ?_ (IsS109.ge HI104.out)) | exact HB.out)); rintro e w66 ⟨rfl, hi, hb, hk⟩; have n0_ := Aside0.mk (hb); have n1_ := Aside0.mk (hi); clear HB; clear HI104; have HB := n0_; have HI104 := n1_; clear n0_ n1_; (try clear hb); (try clear hb2); (try clear hk); (try clear hi)))
                                            go_ret
                                            exact ⟨by first | rfl | (simp [errW_none, errW_some] <;> rfl) | (simp [*, errW_none, errW_some] <;> rfl), by repeat (first | (with_reducible first | exact HB.out | apply below_alloc | apply pw_below_drewN | apply below_drew1 | refine below_set ?_ (IsS109.ge HI104.out)) | exact HB.out)⟩
                                          · rw [if_neg c64] at H
                                            have c64b0 : (t121 != x7_17) = false := by simpa using c64
                                            (try (have c64b1 : decide (t121 = x7_17) = true := by simpa using c64))
                                            (try (have c64b2 : (t121 == x7_17) = true := by simpa using c64))
                                            clear c64
                                            replace H := Option.bind_eq_some_iff.mp H
                                            obtain ⟨⟨t123, t124⟩, A670, H⟩ := H
                                            replace H : (if x7_17 = true then (if (t123 != false) = true then (some false) else (polyglotlaw01_OctetReads.l0 kj58 l0 l1 x6_56 x7_17 (wrap64 (x8_2 + 1)) t124)) else (if (t123 != (x12_58 == 0)) = true then (some false) else (polyglotlaw01_OctetReads.l0 kj58 l0 l1 x6_56 x7_17 (wrap64 (x8_2 + 1)) t124))) = some r := H
                                            have A67 := Aside0.mk A670
                                            clear A670
                                            by_cases c68 : x7_17 = true
                                            · subst c68
                                              have H1 : (if (t123 != false) = true then (some false) else (polyglotlaw01_OctetReads.l0 kj58 l0 l1 x6_56 true (wrap64 (x8_2 + 1)) t124)) = some r := by rw [if_pos rfl] at H; exact H
                                              clear H
                                              have H := H1
                                              clear H1
                                              by_cases c69 : (t123 != false) = true
                                              · rw [if_pos c69] at H
                                                have c69b0 : (t123 != false) = true := c69
                                                (try (have c69b1 : decide (t123 = false) = false := by simpa using c69))
                                                (try (have c69b2 : (t123 == false) = false := by simpa using c69))
                                                (try (have c69b3 : ¬ (t123 = false) := by simpa using c69))
                                                clear c69
                                                obtain rfl := Option.some.inj H
                                                go_wp2_with (first | ((with_reducible refine gate_callee (f := 41) rfl ?_); refine goesL_ (some 124) rfl rfl Try.func41 (by kernel_rfl) rfl #[.pointer (some ⟨g104, 0, none⟩)] rfl (by (try simp only [List.map_toArray, List.map_cons, List.map_nil]); first | done | rfl | (simp only [List.length_drop, List.length_take]; rfl)) ?_; (with_reducible refine (octet_Reader_Left.calls g104 x105000_21 t119 t120 w _ ?side1 ?side2 A61.out).mono ?_); (case side1 => repeat (first | (with_reducible first | exact HI104.out | apply IsS109.alloc | apply IsS109.drewN | apply IsS109.drew | apply IsS109.set_0) | exact HI104.out)); (case side2 => repeat (first | (with_reducible first | exact HB.out | apply below_alloc | apply pw_below_drewN | apply below_drew1 | refine below_set ?_ (IsS109.ge HI104.out)) | exact HB.out)); rintro e w70 ⟨rfl, hi, hb, hk⟩; refine ⟨_, rfl, ?_⟩; have n0_ := Aside0.mk (hb); have n1_ := Aside0.mk (hi); clear HB; clear HI104; have HB := n0_; have HI104 := n1_; clear n0_ n1_; (try clear hb); (try clear hb2); (try clear hk); (try clear hi)) | (go_at_call 42; (with_reducible refine (octet_Reader_Bad.calls g104 t120 t121 t122 w _ ?side1 ?side2 A63.out).mono ?_); (case side1 => repeat (first | (with_reducible first | exact HI104.out | apply IsS109.alloc | apply IsS109.drewN | apply IsS109.drew | apply IsS109.set_0) | exact HI104.out)); (case side2 => repeat (first | (with_reducible first | exact HB.out | apply below_alloc | apply pw_below_drewN | apply below_drew1 | refine below_set ?_ (IsS109.ge HI104.out)) | exact HB.out)); rintro e w71 ⟨rfl, hi, hb, hk⟩; have n0_ := Aside0.mk (hb); have n1_ := Aside0.mk (hi); clear HB; clear HI104; have HB := n0_; have HI104 := n1_; clear n0_ n1_; (try clear hb); (try clear hb2); (try clear hk); (try clear hi)) | (go_at_call 43; (with_reducible refine (octet_Reader_Done.calls g104 t122 t123 t124 w _ ?side1 ?side2 A67.out).mono ?_); (case side1 => repeat (first | (with_reducible first | exact HI104.out | apply IsS109.alloc | apply IsS109.drewN | apply IsS109.drew | apply IsS109.set_0) | exact HI104.out)); (case side2 => repeat (first | (with_reducible first | exact HB.out | apply below_alloc | apply pw_below_drewN | apply below_drew1 | refine below_set ?_ (IsS109.ge HI104.out)) | exact HB.out)); rintro e w72 ⟨rfl, hi, hb, hk⟩; have n0_ := Aside0.mk (hb); have n1_ := Aside0.mk (hi); clear HB; clear HI104; have HB := n0_; have HI104 := n1_; clear n0_ n1_; (try clear hb); (try clear hb2); (try clear hk); (try clear hi)))
                                                go_ret
                                                exact ⟨by first | rfl | (simp [errW_none, errW_some] <;> rfl) | (simp [*, errW_none, errW_some] <;> rfl), by repeat (first | (with_reducible first | exact HB.out | apply below_alloc | apply pw_below_drewN | apply below_drew1 | refine below_set ?_ (IsS109.ge HI104.out)) | exact HB.out)⟩
                                              · rw [if_neg c69] at H
                                                have c69b0 : (t123 != false) = false := by simpa using c69
                                                (try (have c69b1 : decide (t123 = false) = true := by simpa using c69))
                                                (try (have c69b2 : (t123 == false) = true := by simpa using c69))
                                                clear c69
                                                have H' := Aside0.mk H
                                                clear H
                                                go_wp2_with (first | ((with_reducible refine gate_callee (f := 41) rfl ?_); refine goesL_ (some 124) rfl rfl Try.func41 (by kernel_rfl) rfl #[.pointer (some ⟨g104, 0, none⟩)] rfl (by (try simp only [List.map_toArray, List.map_cons, List.map_nil]); first | done | rfl | (simp only [List.length_drop, List.length_take]; rfl)) ?_; (with_reducible refine (octet_Reader_Left.calls g104 x105000_21 t119 t120 w _ ?side1 ?side2 A61.out).mono ?_); (case side1 => repeat (first | (with_reducible first | exact HI104.out | apply IsS109.alloc | apply IsS109.drewN | apply IsS109.drew | apply IsS109.set_0) | exact HI104.out)); (case side2 => repeat (first | (with_reducible first | exact HB.out | apply below_alloc | apply pw_below_drewN | apply below_drew1 | refine below_set ?_ (IsS109.ge HI104.out)) | exact HB.out)); rintro e w73 ⟨rfl, hi, hb, hk⟩; refine ⟨_, rfl, ?_⟩; have n0_ := Aside0.mk (hb); have n1_ := Aside0.mk (hi); clear HB; clear HI104; have HB := n0_; have HI104 := n1_; clear n0_ n1_; (try clear hb); (try clear hb2); (try clear hk); (try clear hi)) | (go_at_call 42; (with_reducible refine (octet_Reader_Bad.calls g104 t120 t121 t122 w _ ?side1 ?side2 A63.out).mono ?_); (case side1 => repeat (first | (with_reducible first | exact HI104.out | apply IsS109.alloc | apply IsS109.drewN | apply IsS109.drew | apply IsS109.set_0) | exact HI104.out)); (case side2 => repeat (first | (with_reducible first | exact HB.out | apply below_alloc | apply pw_below_drewN | apply below_drew1 | refine below_set ?_ (IsS109.ge HI104.out)) | exact HB.out)); rintro e w74 ⟨rfl, hi, hb, hk⟩; have n0_ := Aside0.mk (hb); have n1_ := Aside0.mk (hi); clear HB; clear HI104; have HB := n0_; have HI104 := n1_; clear n0_ n1_; (try clear hb); (try clear hb2); (try clear hk); (try clear hi)) | (go_at_call 43; (with_reducible refine (octet_Reader_Done.calls g104 t122 t123 t124 w _ ?side1 ?side2 A67.out).mono ?_); (case side1 => repeat (first | (with_reducible first | exact HI104.out | apply IsS109.alloc | apply IsS109.drewN | apply IsS109.drew | apply IsS109.set_0) | exact HI104.out)); (case side2 => repeat (first | (with_reducible first | exact HB.out | apply below_alloc | apply pw_below_drewN | apply below_drew1 | refine below_set ?_ (IsS109.ge HI104.out)) | exact HB.out)); rintro e w75 ⟨rfl, hi, hb, hk⟩; have n0_ := Aside0.mk (hb); have n1_ := Aside0.mk (hi); clear HB; clear HI104; have HB := n0_; have HI104 := n1_; clear n0_ n1_; (try clear hb); (try clear hb2); (try clear hk); (try clear hi)))
                                                go_roundg kj58
                                                case measure => have := HJ2.out; have := HK2.out; have := HJ11.out; have := HJ17.out; have := HJ21.out; have := HJ56.out; have := HJ58.out; omega
                                                case rel => exact ⟨(x6_56), (true), (wrap64 (x8_2 + 1)), (t124), (by first | rfl | (simp; done) | (simp [*]; done)), (by first | rfl | (simp; done) | (simp [*]; done)), (by first | rfl | (simp; done) | (simp [*]; done)), H', ⟨by have := HJ2.out; have := HK2.out; have := HJ11.out; have := HJ17.out; have := HJ21.out; have := HJ56.out; have := HJ58.out; omega⟩, ⟨by repeat (first | (with_reducible first | exact HI104.out | apply IsS109.alloc | apply IsS109.drewN | apply IsS109.drew | apply IsS109.set_0) | exact HI104.out)⟩, ⟨by repeat (first | (with_reducible first | exact HB.out | apply below_alloc | apply pw_below_drewN | apply below_drew1 | refine below_set ?_ (IsS109.ge HI104.out)) | exact HB.out)⟩⟩
                                            · replace c68 := Bool.eq_false_iff.mpr c68
                                              subst c68
                                              have H1 : (if (t123 != (x12_58 == 0)) = true then (some false) else (polyglotlaw01_OctetReads.l0 kj58 l0 l1 x6_56 false (wrap64 (x8_2 + 1)) t124)) = some r := by rw [if_neg (show ¬ (false = true) by decide)] at H; exact H
                                              clear H
                                              have H := H1
                                              clear H1
                                              by_cases c76 : (t123 != (x12_58 == 0)) = true
                                              · rw [if_pos c76] at H
                                                have c76b0 : (t123 != (x12_58 == 0)) = true := c76
                                                (try (have c76b1 : decide (t123 = (x12_58 == 0)) = false := by simpa using c76))
                                                (try (have c76b2 : (t123 == (x12_58 == 0)) = false := by simpa using c76))
                                                (try (have c76b3 : ¬ (t123 = (x12_58 == 0)) := by simpa using c76))
                                                clear c76
                                                obtain rfl := Option.some.inj H
                                                go_wp2_with (first | ((with_reducible refine gate_callee (f := 41) rfl ?_); refine goesL_ (some 124) rfl rfl Try.func41 (by kernel_rfl) rfl #[.pointer (some ⟨g104, 0, none⟩)] rfl (by (try simp only [List.map_toArray, List.map_cons, List.map_nil]); first | done | rfl | (simp only [List.length_drop, List.length_take]; rfl)) ?_; (with_reducible refine (octet_Reader_Left.calls g104 x105000_21 t119 t120 w _ ?side1 ?side2 A61.out).mono ?_); (case side1 => repeat (first | (with_reducible first | exact HI104.out | apply IsS109.alloc | apply IsS109.drewN | apply IsS109.drew | apply IsS109.set_0) | exact HI104.out)); (case side2 => repeat (first | (with_reducible first | exact HB.out | apply below_alloc | apply pw_below_drewN | apply below_drew1 | refine below_set ?_ (IsS109.ge HI104.out)) | exact HB.out)); rintro e w77 ⟨rfl, hi, hb, hk⟩; refine ⟨_, rfl, ?_⟩; have n0_ := Aside0.mk (hb); have n1_ := Aside0.mk (hi); clear HB; clear HI104; have HB := n0_; have HI104 := n1_; clear n0_ n1_; (try clear hb); (try clear hb2); (try clear hk); (try clear hi)) | (go_at_call 42; (with_reducible refine (octet_Reader_Bad.calls g104 t120 t121 t122 w _ ?side1 ?side2 A63.out).mono ?_); (case side1 => repeat (first | (with_reducible first | exact HI104.out | apply IsS109.alloc | apply IsS109.drewN | apply IsS109.drew | apply IsS109.set_0) | exact HI104.out)); (case side2 => repeat (first | (with_reducible first | exact HB.out | apply below_alloc | apply pw_below_drewN | apply below_drew1 | refine below_set ?_ (IsS109.ge HI104.out)) | exact HB.out)); rintro e w78 ⟨rfl, hi, hb, hk⟩; have n0_ := Aside0.mk (hb); have n1_ := Aside0.mk (hi); clear HB; clear HI104; have HB := n0_; have HI104 := n1_; clear n0_ n1_; (try clear hb); (try clear hb2); (try clear hk); (try clear hi)) | (go_at_call 43; (with_reducible refine (octet_Reader_Done.calls g104 t122 t123 t124 w _ ?side1 ?side2 A67.out).mono ?_); (case side1 => repeat (first | (with_reducible first | exact HI104.out | apply IsS109.alloc | apply IsS109.drewN | apply IsS109.drew | apply IsS109.set_0) | exact HI104.out)); (case side2 => repeat (first | (with_reducible first | exact HB.out | apply below_alloc | apply pw_below_drewN | apply below_drew1 | refine below_set ?_ (IsS109.ge HI104.out)) | exact HB.out)); rintro e w79 ⟨rfl, hi, hb, hk⟩; have n0_ := Aside0.mk (hb); have n1_ := Aside0.mk (hi); clear HB; clear HI104; have HB := n0_; have HI104 := n1_; clear n0_ n1_; (try clear hb); (try clear hb2); (try clear hk); (try clear hi)))
                                                go_ret
                                                exact ⟨by first | rfl | (simp [errW_none, errW_some] <;> rfl) | (simp [*, errW_none, errW_some] <;> rfl), by repeat (first | (with_reducible first | exact HB.out | apply below_alloc | apply pw_below_drewN | apply below_drew1 | refine below_set ?_ (IsS109.ge HI104.out)) | exact HB.out)⟩
                                              · rw [if_neg c76] at H
                                                have c76b0 : (t123 != (x12_58 == 0)) = false := by simpa using c76
                                                (try (have c76b1 : decide (t123 = (x12_58 == 0)) = true := by simpa using c76))
                                                (try (have c76b2 : (t123 == (x12_58 == 0)) = true := by simpa using c76))
                                                clear c76
                                                have H' := Aside0.mk H
                                                clear H
                                                go_wp2_with (first | ((with_reducible refine gate_callee (f := 41) rfl ?_); refine goesL_ (some 124) rfl rfl Try.func41 (by kernel_rfl) rfl #[.pointer (some ⟨g104, 0, none⟩)] rfl (by (try simp only [List.map_toArray, List.map_cons, List.map_nil]); first | done | rfl | (simp only [List.length_drop, List.length_take]; rfl)) ?_; (with_reducible refine (octet_Reader_Left.calls g104 x105000_21 t119 t120 w _ ?side1 ?side2 A61.out).mono ?_); (case side1 => repeat (first | (with_reducible first | exact HI104.out | apply IsS109.alloc | apply IsS109.drewN | apply IsS109.drew | apply IsS109.set_0) | exact HI104.out)); (case side2 => repeat (first | (with_reducible first | exact HB.out | apply below_alloc | apply pw_below_drewN | apply below_drew1 | refine below_set ?_ (IsS109.ge HI104.out)) | exact HB.out)); rintro e w80 ⟨rfl, hi, hb, hk⟩; refine ⟨_, rfl, ?_⟩; have n0_ := Aside0.mk (hb); have n1_ := Aside0.mk (hi); clear HB; clear HI104; have HB := n0_; have HI104 := n1_; clear n0_ n1_; (try clear hb); (try clear hb2); (try clear hk); (try clear hi)) | (go_at_call 42; (with_reducible refine (octet_Reader_Bad.calls g104 t120 t121 t122 w _ ?side1 ?side2 A63.out).mono ?_); (case side1 => repeat (first | (with_reducible first | exact HI104.out | apply IsS109.alloc | apply IsS109.drewN | apply IsS109.drew | apply IsS109.set_0) | exact HI104.out)); (case side2 => repeat (first | (with_reducible first | exact HB.out | apply below_alloc | apply pw_below_drewN | apply below_drew1 | refine below_set ?_ (IsS109.ge HI104.out)) | exact HB.out)); rintro e w81 ⟨rfl, hi, hb, hk⟩; have n0_ := Aside0.mk (hb); have n1_ := Aside0.mk (hi); clear HB; clear HI104; have HB := n0_; have HI104 := n1_; clear n0_ n1_; (try clear hb); (try clear hb2); (try clear hk); (try clear hi)) | (go_at_call 43; (with_reducible refine (octet_Reader_Done.calls g104 t122 t123 t124 w _ ?side1 ?side2 A67.out).mono ?_); (case side1 => repeat (first | (with_reducible first | exact HI104.out | apply IsS109.alloc | apply IsS109.drewN | apply IsS109.drew | apply IsS109.set_0) | exact HI104.out)); (case side2 => repeat (first | (with_reducible first | exact HB.out | apply below_alloc | apply pw_below_drewN | apply below_drew1 | refine below_set ?_ (IsS109.ge HI104.out)) | exact HB.out)); rintro e w82 ⟨rfl, hi, hb, hk⟩; have n0_ := Aside0.mk (hb); have n1_ := Aside0.mk (hi); clear HB; clear HI104; have HB := n0_; have HI104 := n1_; clear n0_ n1_; (try clear hb); (try clear hb2); (try clear hk); (try clear hi)))
                                                go_roundg kj58
                                                case measure => have := HJ2.out; have := HK2.out; have := HJ11.out; have := HJ17.out; have := HJ21.out; have := HJ56.out; have := HJ58.out; omega
                                                case rel => exact ⟨(x6_56), (false), (wrap64 (x8_2 + 1)), (t124), (by first | rfl | (simp; done) | (simp [*]; done)), (by first | rfl | (simp; done) | (simp [*]; done)), (by first | rfl | (simp; done) | (simp [*]; done)), H', ⟨by have := HJ2.out; have := HK2.out; have := HJ11.out; have := HJ17.out; have := HJ21.out; have := HJ56.out; have := HJ58.out; omega⟩, ⟨by repeat (first | (with_reducible first | exact HI104.out | apply IsS109.alloc | apply IsS109.drewN | apply IsS109.drew | apply IsS109.set_0) | exact HI104.out)⟩, ⟨by repeat (first | (with_reducible first | exact HB.out | apply below_alloc | apply pw_below_drewN | apply below_drew1 | refine below_set ?_ (IsS109.ge HI104.out)) | exact HB.out)⟩⟩
                                        · rw [if_neg c62] at H
                                          have c62b0 : (t119 == x12_58) = false := beq_eq_false_iff_ne.mpr c62
                                          have c62b1 : (t119 != x12_58) = true := bne_iff_ne.mpr c62
                                          obtain rfl := Option.some.inj H
                                          go_wp2_with (first | ((with_reducible refine gate_callee (f := 41) rfl ?_); refine goesL_ (some 124) rfl rfl Try.func41 (by kernel_rfl) rfl #[.pointer (some ⟨g104, 0, none⟩)] rfl (by (try simp only [List.map_toArray, List.map_cons, List.map_nil]); first | done | rfl | (simp only [List.length_drop, List.length_take]; rfl)) ?_; (with_reducible refine (octet_Reader_Left.calls g104 x105000_21 t119 t120 w _ ?side1 ?side2 A61.out).mono ?_); (case side1 => repeat (first | (with_reducible first | exact HI104.out | apply IsS109.alloc | apply IsS109.drewN | apply IsS109.drew | apply IsS109.set_0) | exact HI104.out)); (case side2 => repeat (first | (with_reducible first | exact HB.out | apply below_alloc | apply pw_below_drewN | apply below_drew1 | refine below_set ?_ (IsS109.ge HI104.out)) | exact HB.out)); rintro e w83 ⟨rfl, hi, hb, hk⟩; refine ⟨_, rfl, ?_⟩; have n0_ := Aside0.mk (hb); have n1_ := Aside0.mk (hi); clear HB; clear HI104; have HB := n0_; have HI104 := n1_; clear n0_ n1_; (try clear hb); (try clear hb2); (try clear hk); (try clear hi)))
                                          go_ret
                                          exact ⟨by first | rfl | (simp [errW_none, errW_some] <;> rfl) | (simp [*, errW_none, errW_some] <;> rfl), by repeat (first | (with_reducible first | exact HB.out | apply below_alloc | apply pw_below_drewN | apply below_drew1 | refine below_set ?_ (IsS109.ge HI104.out)) | exact HB.out)⟩
                          · rw [if_neg c21] at H
                            exact absurd H (by simp)
                        · rw [if_neg c20] at H
                          exact absurd H (by simp)
              · rw [if_neg c11] at H
                exact absurd H (by simp)
            · rw [if_neg c10] at H
              have c10b0 : decide (x8_2 < (l1.length : Int)) = false := decide_eq_false c10
              clear c10
              replace H := Option.bind_eq_some_iff.mp H
              obtain ⟨t105, A840, H⟩ := H
              replace H : (some t105) = some r := H
              have A84 := Aside0.mk A840
              clear A840
              obtain rfl := Option.some.inj H
              go_wp2_with (first | ((with_reducible refine gate_callee (f := 35) rfl ?_); refine goesL_ (some 144) rfl rfl Try.func35 (by kernel_rfl) rfl #[] rfl (by (try simp only [List.map_toArray, List.map_cons, List.map_nil]); first | done | rfl | (simp only [List.length_drop, List.length_take]; rfl)) ?_; (with_reducible refine (polyglotlaw01_awake.calls  t105 _ A84.out).mono ?_); rintro e w85 ⟨rfl, hb⟩; refine ⟨_, rfl, ?_⟩; have n0_ := Aside0.mk (IsS109.below (by repeat (first | (with_reducible first | exact HI104.out | apply IsS109.alloc | apply IsS109.drewN | apply IsS109.drew | apply IsS109.set_0) | exact HI104.out)) hb); have n1_ := Aside0.mk (below_step (by repeat (first | (with_reducible first | exact HB.out | apply below_alloc | apply pw_below_drewN | apply below_drew1 | refine below_set ?_ (IsS109.ge HI104.out)) | exact HB.out)) hb); clear HI104; clear HB; have HI104 := n0_; have HB := n1_; clear n0_ n1_; (try clear hb); (try clear hb2); (try clear hk); (try clear hi)))
              go_ret
              exact ⟨by first | rfl | (simp [errW_none, errW_some] <;> rfl) | (simp [*, errW_none, errW_some] <;> rfl), by repeat (first | (with_reducible first | exact HB.out | apply below_alloc | apply pw_below_drewN | apply below_drew1 | refine below_set ?_ (IsS109.ge HI104.out)) | exact HB.out)⟩

/-- THE ONE PURE STATEMENT of polyglotlaw01_OctetReads: yours. -/
def polyglotlaw01_OctetReads.Pure : Prop := ∀ (l0 : List Int) (l1 : List (S70)), l0.length ≤ maxLen → (∀ v ∈ l0, (Lit.int .u8 v).wf = true) → l1.length ≤ maxLen → (∀ v ∈ l1, (True ∧ (Lit.int .i64 v.f1).wf = true)) → ∃ k, polyglotlaw01_OctetReads.f k l0 l1 = some true

end Go.Proofs.Ytdamjkfggmmmeaa.POc
