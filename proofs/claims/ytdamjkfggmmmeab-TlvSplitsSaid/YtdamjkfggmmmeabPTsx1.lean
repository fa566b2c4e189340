-- WRITTEN BY A PROGRAM OF THIS SESSION (a print of its own, with given functions). Not trusted: Lean checks it.
import Derived.Test.YtdamjkfggmmmeabPTsx0
namespace Go.Proofs.Ytdamjkfggmmmeab.PTs
open Go.RowKit Go.Proofs.YtdamjkfggmmmeabW.PrintWords Go.Proofs.YtdamjkfggmmmeabW.PrintLast Go.Proofs.YtdamjkfggmmmeabW.PrintMore
attribute [local go_sem] max2_int min2_int max_two min_two max_three min_three max_four min_four   -- for this text's walks alone
set_option linter.unusedVariables false
set_option linter.unusedSimpArgs false

/-! ### tlv_Join: function 41 -/
mutual
def tlv_Join.l0 : Nat → List Int → List (S40) → Int → Int → Option (List Int × Int)
  | 0, _, _, _, _ => none
  | k + 1, x4, x8, x9, x10 => if x10 < x9 then (if 0 ≤ x10 then (if x10 < (x8.length : Int) then (if ((rd_T40 x8 x10).f0) < 0 then (tlv_Join.j1 k x4 x8 x9 x10 true ((rd_T40 x8 x10).f0) ((rd_T40 x8 x10).f1)) else (tlv_Join.j1 k x4 x8 x9 x10 (decide (((rd_T40 x8 x10).f0) > 255)) ((rd_T40 x8 x10).f0) ((rd_T40 x8 x10).f1))) else (none)) else (none)) else (some (x4, 0))
def tlv_Join.j1 : Nat → List Int → List (S40) → Int → Int → Bool → Int → List Int → Option (List Int × Int)
  | 0, _, _, _, _, _, _, _ => none
  | k + 1, x4, x8, x9, x10, x21, x103000, x103001 => if x21 = true then (some (([] : List Int), 5)) else (if (x103001.length : Int) > 65535 then (some (([] : List Int), 3)) else (if x4.length < 140737488355328 then (tlv_Join.l1 k (x4 ++ [(x103000) % 256]) x8 x9 x10 0 x103000 x103001) else (none)))
def tlv_Join.l1 : Nat → List Int → List (S40) → Int → Int → Int → Int → List Int → Option (List Int × Int)
  | 0, _, _, _, _, _, _, _ => none
  | k + 1, x4, x8, x9, x10, x32, x103000, x103001 => if x32 < 2 then (if 0 ≤ (wrap64 (8 - (wrap64 (8 * x32)))) then (if x4.length < 140737488355328 then (tlv_Join.l1 k (x4 ++ [(shr .i64 (x103001.length : Int) (wrap64 (8 - (wrap64 (8 * x32))))) % 256]) x8 x9 x10 (wrap64 (x32 + 1)) x103000 x103001) else (none)) else (none)) else (if x4.length + x103001.length < 140737488355328 then (tlv_Join.l0 k (x4 ++ x103001) x8 x9 (wrap64 (x10 + 1))) else (none))
end
def tlv_Join.f (k : Nat) (l0 : List (S40)) : Option (List Int × Int) := tlv_Join.l0 k ([] : List Int) l0 (l0.length : Int) 0
theorem tlv_Join.mono_l : ∀ k, (∀ y0 y1 y2 y3, LeO (tlv_Join.l0 k y0 y1 y2 y3) (tlv_Join.l0 (k + 1) y0 y1 y2 y3)) ∧ (∀ y0 y1 y2 y3 y4 y5 y6, LeO (tlv_Join.j1 k y0 y1 y2 y3 y4 y5 y6) (tlv_Join.j1 (k + 1) y0 y1 y2 y3 y4 y5 y6)) ∧ (∀ y0 y1 y2 y3 y4 y5 y6, LeO (tlv_Join.l1 k y0 y1 y2 y3 y4 y5 y6) (tlv_Join.l1 (k + 1) y0 y1 y2 y3 y4 y5 y6))
  | 0 => ⟨fun _ _ _ _ r h => by simp [tlv_Join.l0] at h, fun _ _ _ _ _ _ _ r h => by simp [tlv_Join.j1] at h, fun _ _ _ _ _ _ _ r h => by simp [tlv_Join.l1] at h⟩
  | k + 1 => by
    obtain ⟨ih0, ih1, ih2⟩ := tlv_Join.mono_l k
    refine ⟨?_, ?_, ?_⟩
    · intro y0 y1 y2 y3
      unfold tlv_Join.l0
      repeat' first
      | (with_reducible exact ih0 _ _ _ _)
      | (with_reducible exact ih1 _ _ _ _ _ _ _)
      | (with_reducible exact ih2 _ _ _ _ _ _ _)
      | (with_reducible exact LeO.refl _)
      | (with_reducible exact LeO.none _)
      | (with_reducible refine LeO.ite ?_ ?_)
      | (with_reducible refine LeO.bind ?_ (fun _ => ?_))
      | exact ih0 _ _ _ _
      | exact ih1 _ _ _ _ _ _ _
      | exact ih2 _ _ _ _ _ _ _
      | exact LeO.none _
      | refine LeO.ite ?_ ?_
      | refine LeO.bind ?_ (fun _ => ?_)
    · intro y0 y1 y2 y3 y4 y5 y6
      unfold tlv_Join.j1
      repeat' first
      | (with_reducible exact ih0 _ _ _ _)
      | (with_reducible exact ih1 _ _ _ _ _ _ _)
      | (with_reducible exact ih2 _ _ _ _ _ _ _)
      | (with_reducible exact LeO.refl _)
      | (with_reducible exact LeO.none _)
      | (with_reducible refine LeO.ite ?_ ?_)
      | (with_reducible refine LeO.bind ?_ (fun _ => ?_))
      | exact ih0 _ _ _ _
      | exact ih1 _ _ _ _ _ _ _
      | exact ih2 _ _ _ _ _ _ _
      | exact LeO.none _
      | refine LeO.ite ?_ ?_
      | refine LeO.bind ?_ (fun _ => ?_)
    · intro y0 y1 y2 y3 y4 y5 y6
      unfold tlv_Join.l1
      repeat' first
      | (with_reducible exact ih0 _ _ _ _)
      | (with_reducible exact ih1 _ _ _ _ _ _ _)
      | (with_reducible exact ih2 _ _ _ _ _ _ _)
      | (with_reducible exact LeO.refl _)
      | (with_reducible exact LeO.none _)
      | (with_reducible refine LeO.ite ?_ ?_)
      | (with_reducible refine LeO.bind ?_ (fun _ => ?_))
      | exact ih0 _ _ _ _
      | exact ih1 _ _ _ _ _ _ _
      | exact ih2 _ _ _ _ _ _ _
      | exact LeO.none _
      | refine LeO.ite ?_ ?_
      | refine LeO.bind ?_ (fun _ => ?_)
theorem tlv_Join.mono : ∀ a0 k, LeO (tlv_Join.f k a0) (tlv_Join.f (k + 1) a0) := by
  intro a0 k
  obtain ⟨ih0, ih1, ih2⟩ := tlv_Join.mono_l k
  unfold tlv_Join.f
  repeat' first
      | (with_reducible exact ih0 _ _ _ _)
      | (with_reducible exact ih1 _ _ _ _ _ _ _)
      | (with_reducible exact ih2 _ _ _ _ _ _ _)
      | (with_reducible exact LeO.refl _)
      | (with_reducible exact LeO.none _)
      | (with_reducible refine LeO.ite ?_ ?_)
      | (with_reducible refine LeO.bind ?_ (fun _ => ?_))
      | exact ih0 _ _ _ _
      | exact ih1 _ _ _ _ _ _ _
      | exact ih2 _ _ _ _ _ _ _
      | exact LeO.none _
      | refine LeO.ite ?_ ?_
      | refine LeO.bind ?_ (fun _ => ?_)
set_option maxHeartbeats 8000000 in
set_option maxRecDepth 100000 in
theorem tlv_Join.calls (k : Nat) (A0 : Option Addr) (c0 : Nat) (l0 : List (S40)) (r1 : List Int) (r2 : Int) (w : World) (hr0 : Kd.C k40 w A0 l0.length l0) (hc0 : l0.length ≤ c0) (h : tlv_Join.f k l0 = some (r1, r2)) :
    Calls Try.prog 41 #[.slice A0 l0.length c0] w fun e w' => ∃ v0_ : Value, e = .returned (.tuple #[v0_, .int .i64 r2]) ∧ Kd.R (Kd.int .u8) 5 w' w.heap.size (fun _ => True) v0_ r1 ∧ Below w.heap.size w w' := by
  have hu40 := Try.underlying40
  have HR0 := Aside0.mk hr0
  have HC0 := Aside0.mk hc0
  clear hr0 hc0
  have HB := Aside0.mk (Below.refl w.heap.size w)
  have H : (tlv_Join.l0 k ([] : List Int) l0 (l0.length : Int) 0) = some (r1, r2) := h
  clear h
  have H' := Aside0.mk H
  clear H
  go_enter Try.func41, Try.ntmps41
  go_wp2
  go_loopg [4, 10] k (fun kq v4 v10 w' => ∃ (x4_1 : List Int) (x10_1 : Int), v10 = .int .i64 x10_1 ∧ Aside0 (tlv_Join.l0 kq x4_1 l0 (l0.length : Int) x10_1 = some (r1, r2)) ∧ Aside0 (kq ≤ k) ∧ Aside0 (Kd.R (Kd.int .u8) 5 w' w.heap.size (fun _ => True) v4 x4_1) ∧ Aside0 (Below w.heap.size w w'))
  case atStart => exact ⟨(([] : List Int)), (0), (by first | rfl | (simp; done) | (simp [*]; done)), H', ⟨Nat.le_refl _⟩, ⟨by first | exact Kd.R_nil _ _ _ _ _ | exact Kd.N_nil _ _ _ _ _ | exact Kd.V_nil _ _ _ _ _ | exact Kd.Q_nil _ _ _ _ _ | exact Kd.S_nil _ _ _ _ _⟩, ⟨by repeat (first | (with_reducible first | exact HB.out | apply below_alloc | apply pw_below_drewN | apply below_drew1) | exact HB.out)⟩⟩
  case round =>
    clear H'
    obtain ⟨x4_1, x10_1, rfl, HA, HK1, HO_4, HB⟩ := hrel
    cases gk with
    | zero => exact absurd HA.out (by simp [tlv_Join.l0])
    | succ k1 =>
      have H := HA.out
      clear HA
      simp only [tlv_Join.l0] at H
      by_cases c2 : x10_1 < (l0.length : Int)
      · rw [if_pos c2] at H
        have c2b0 : decide (x10_1 < (l0.length : Int)) = true := decide_eq_true c2
        clear c2
        by_cases c3 : 0 ≤ x10_1
        · rw [if_pos c3] at H
          have c3b0 : decide (0 ≤ x10_1) = true := decide_eq_true c3
          clear c3
          by_cases c4 : x10_1 < (l0.length : Int)
          · rw [if_pos c4] at H
            have c4b0 : decide (x10_1 < (l0.length : Int)) = true := decide_eq_true c4
            clear c4
            have HC5 := Aside0.mk H
            clear H
            have p101 : 0 ≤ (x10_1 : Int) := of_decide_eq_true (by first | (with_reducible assumption) | assumption)
            have q101 : x10_1 < (l0.length : Int) := of_decide_eq_true (by first | (with_reducible assumption) | assumption)
            obtain ⟨ad101, A101_1, c101_1, e101, hx101_0, hx101_1, hl101_1, hi101_1⟩ := at_T40 HR0.out x10_1 p101 q101
            cases e101
            replace hx101_0 := (HB.out.cell (World.block_lt_of_cell? w _ hx101_0)).trans hx101_0
            replace hx101_1 := (HB.out.cell (World.block_lt_of_cell? w _ hx101_1)).trans hx101_1
            have HR101_1 := Aside0.mk hi101_1
            have HC101_1 := Aside0.mk hl101_1
            clear hi101_1 hl101_1
            replace p101 := eq_true p101
            replace q101 := eq_true q101
            go_upto_region 5 with (first | ((with_reducible refine gate_dst (N := 6) rfl ?_); refine box_event ?hg (N := 6) ?hd (cs := #[.int .i64 0, .slice none 0 0]) (t := 40) ?hr ?_; (case hd => rfl); (case hg => rfl); (case hr => first | (go_simp; done) | (go_simp; rfl)); intro gb102 hg w6 hbox hb; have n0_ := Aside0.mk (Kd.R_below (by (with_reducible repeat (first | apply Kd.R_alloc | apply Kd.R_drewN | apply Kd.R_drew)); exact HO_4.out) hb); have n1_ := Aside0.mk (below_step (by repeat (first | (with_reducible first | exact HB.out | apply below_alloc | apply pw_below_drewN | apply below_drew1) | exact HB.out)) hb); have n2_ := Aside0.mk (hbox); have n3_ := Aside0.mk ((by rw [hg]; exact (below_size (by repeat (first | (with_reducible first | exact HB.out | apply below_alloc | apply pw_below_drewN | apply below_drew1) | exact HB.out))) : w.heap.size ≤ gb102)); have n4_ := Aside0.mk ((by rw [hg]; exact (below_size (by repeat (first | (with_reducible first | exact HB.out | apply below_alloc | apply pw_below_drewN | apply below_drew1) | exact HB.out))) : w.heap.size ≤ gb102)); clear HO_4; clear HB; have HO_4 := n0_; have HB := n1_; have BK102 := n2_; have GW102 := n3_; have GE102 := n4_; clear n0_ n1_ n2_ n3_ n4_; clear hb hbox hg; have hcz7_0 : w6.cell? ⟨gb102, 0, none⟩ = some (.int .i64 0) := (blk_cell BK102.out 0).trans rfl; have hcz7_1 : w6.cell? ⟨gb102, 1, none⟩ = some (.slice none 0 0) := (blk_cell BK102.out 1).trans rfl; have hfz7_0 := blk_frozen BK102.out 0; have hfz7_1 := blk_frozen BK102.out 1))
            (try simp only [Act.put, List.setIfInBounds_toArray, List.set_cons_zero, List.set_cons_succ])
            go_cut [21] (fun v21 wc => ∃ (kq : Nat) (x21_4 : Bool), v21 = .bool x21_4 ∧ Aside0 (tlv_Join.j1 kq x4_1 l0 (l0.length : Int) x10_1 x21_4 ((rd_T40 l0 x10_1).f0) ((rd_T40 l0 x10_1).f1) = some (r1, r2)) ∧ Aside0 (kq ≤ k1) ∧ Aside0 (Kd.R (Kd.int .u8) 5 wc w.heap.size (fun _ => True) u4 x4_1) ∧ Aside0 (wc.heap[gb102]? = some (.cells #[.int .i64 ((rd_T40 l0 x10_1).f0), (.slice A101_1 ((rd_T40 l0 x10_1).f1).length c101_1)] 40 (0, 0))) ∧ Aside0 (Below w.heap.size w wc))
            case first =>
              have H := HC5.out
              clear HC5
              by_cases c8 : ((rd_T40 l0 x10_1).f0) < 0
              · rw [if_pos c8] at H
                have c8b0 : decide (((rd_T40 l0 x10_1).f0) < 0) = true := decide_eq_true c8
                clear c8
                (first | rw [c8b0] | (simp only [i64_w, i32_w]; rw [c8b0]) | skip)
                have H' := Aside0.mk H
                clear H
                have hcz9_0 : w6.cell? ⟨gb102, 0, none⟩ = some (.int .i64 0) := (blk_cell BK102.out 0).trans rfl
                have hcz9_1 : w6.cell? ⟨gb102, 1, none⟩ = some (.slice none 0 0) := (blk_cell BK102.out 1).trans rfl
                have hfz9_0 := blk_frozen BK102.out 0
                have hfz9_1 := blk_frozen BK102.out 1
                go_wp2
                go_meet
                case rel => exact ⟨_, (true), (by first | rfl | (simp; done) | (simp [*]; done)), H', ⟨by have := HK1.out; first | omega | exact Nat.le_refl _⟩, ⟨by (with_reducible repeat (first | apply Kd.R_alloc | apply Kd.R_drewN | apply Kd.R_drew)); exact Kd.R_mono (Kd.R_far (p := ⟨gb102, 1, none⟩) (Kd.R_far (p := ⟨gb102, 0, none⟩) (Kd.R_types HO_4.out BK102.out (by decide)) (fun _ hk => hk.2) (.int .i64 ((rd_T40 l0 x10_1).f0))) (fun _ hk => hk.2) (.slice A101_1 ((rd_T40 l0 x10_1).f1).length c101_1)) (fun _ hk => trivial)⟩, ⟨by (with_reducible repeat (first | refine blk_drewN ?_ _ | refine blk_drew ?_ | refine blk_alloc ?_ _)); refine blk_put (cs := #[.int .i64 ((rd_T40 l0 x10_1).f0), .slice none 0 0]) ?_ 1 _ rfl; (with_reducible repeat (first | refine blk_drewN ?_ _ | refine blk_drew ?_ | refine blk_alloc ?_ _)); refine blk_put (cs := #[.int .i64 0, .slice none 0 0]) ?_ 0 _ rfl; (with_reducible repeat (first | refine blk_drewN ?_ _ | refine blk_drew ?_ | refine blk_alloc ?_ _)); exact BK102.out⟩, ⟨by repeat (first | (with_reducible first | exact HB.out | apply below_alloc | apply pw_below_drewN | apply below_drew1 | refine below_set ?_ GE102.out) | exact HB.out)⟩⟩
              · rw [if_neg c8] at H
                have c8b0 : decide (((rd_T40 l0 x10_1).f0) < 0) = false := decide_eq_false c8
                clear c8
                (first | rw [c8b0] | (simp only [i64_w, i32_w]; rw [c8b0]) | skip)
                have H' := Aside0.mk H
                clear H
                have hcz10_0 : w6.cell? ⟨gb102, 0, none⟩ = some (.int .i64 0) := (blk_cell BK102.out 0).trans rfl
                have hcz10_1 : w6.cell? ⟨gb102, 1, none⟩ = some (.slice none 0 0) := (blk_cell BK102.out 1).trans rfl
                have hfz10_0 := blk_frozen BK102.out 0
                have hfz10_1 := blk_frozen BK102.out 1
                go_wp2
                go_meet
                case rel => exact ⟨_, (decide (((rd_T40 l0 x10_1).f0) > 255)), (by first | rfl | (simp; done) | (simp [*]; done)), H', ⟨by have := HK1.out; first | omega | exact Nat.le_refl _⟩, ⟨by (with_reducible repeat (first | apply Kd.R_alloc | apply Kd.R_drewN | apply Kd.R_drew)); exact Kd.R_mono (Kd.R_far (p := ⟨gb102, 1, none⟩) (Kd.R_far (p := ⟨gb102, 0, none⟩) (Kd.R_types HO_4.out BK102.out (by decide)) (fun _ hk => hk.2) (.int .i64 ((rd_T40 l0 x10_1).f0))) (fun _ hk => hk.2) (.slice A101_1 ((rd_T40 l0 x10_1).f1).length c101_1)) (fun _ hk => trivial)⟩, ⟨by (with_reducible repeat (first | refine blk_drewN ?_ _ | refine blk_drew ?_ | refine blk_alloc ?_ _)); refine blk_put (cs := #[.int .i64 ((rd_T40 l0 x10_1).f0), .slice none 0 0]) ?_ 1 _ rfl; (with_reducible repeat (first | refine blk_drewN ?_ _ | refine blk_drew ?_ | refine blk_alloc ?_ _)); refine blk_put (cs := #[.int .i64 0, .slice none 0 0]) ?_ 0 _ rfl; (with_reducible repeat (first | refine blk_drewN ?_ _ | refine blk_drew ?_ | refine blk_alloc ?_ _)); exact BK102.out⟩, ⟨by repeat (first | (with_reducible first | exact HB.out | apply below_alloc | apply pw_below_drewN | apply below_drew1 | refine below_set ?_ GE102.out) | exact HB.out)⟩⟩
            case rest =>
              clear HC5
              try clear c1
              try clear p1
              try clear q1
              try clear hx1
              try clear c2
              try clear c2b0
              try clear p2
              try clear c3
              try clear c3b0
              try clear c4
              try clear c4b0
              try clear c8
              try clear c8b0
              try clear c10
              try clear p10
              try clear q10
              try clear hx10
              try clear hcz10_0
              try clear hcz10_1
              try clear hcz7_0
              try clear hcz7_1
              try clear hcz9_0
              try clear hcz9_1
              try clear hfz10_0
              try clear hfz10_1
              try clear hfz7_0
              try clear hfz7_1
              try clear hfz9_0
              try clear hfz9_1
              try clear hx101_0
              try clear hx101_1
              try clear p101
              try clear q101
              obtain ⟨kq, x21_4, rfl, HA, HJ4, HO_4, BK102, HB⟩ := hcut
              cases kq with
              | zero => exact absurd HA.out (by simp [tlv_Join.j1])
              | succ kj4 =>
                have H := HA.out
                clear HA
                simp only [tlv_Join.j1] at H
                by_cases c11 : x21_4 = true
                · subst c11
                  have H1 : (some (([] : List Int), 5)) = some (r1, r2) := by rw [if_pos rfl] at H; exact H
                  clear H
                  have H := H1
                  clear H1
                  simp only [Option.some.injEq, Prod.mk.injEq] at H
                  obtain ⟨rfl, rfl⟩ := H
                  go_wp2
                  go_ret2
                  exact ⟨_, by first | rfl | (simp [errW_none, errW_some] <;> rfl) | (simp [*, errW_none, errW_some] <;> rfl), by first | exact Kd.R_nil _ _ _ _ _ | exact Kd.N_nil _ _ _ _ _ | exact Kd.V_nil _ _ _ _ _ | exact Kd.Q_nil _ _ _ _ _ | exact Kd.S_nil _ _ _ _ _, by repeat (first | (with_reducible first | exact HB.out | apply below_alloc | apply pw_below_drewN | apply below_drew1 | refine below_set ?_ GE102.out) | exact HB.out)⟩
                · replace c11 := Bool.eq_false_iff.mpr c11
                  subst c11
                  have H1 : (if (((rd_T40 l0 x10_1).f1).length : Int) > 65535 then (some (([] : List Int), 3)) else (if x4_1.length < 140737488355328 then (tlv_Join.l1 kj4 (x4_1 ++ [(((rd_T40 l0 x10_1).f0)) % 256]) l0 (l0.length : Int) x10_1 0 ((rd_T40 l0 x10_1).f0) ((rd_T40 l0 x10_1).f1)) else (none))) = some (r1, r2) := by rw [if_neg (show ¬ (false = true) by decide)] at H; exact H
                  clear H
                  have H := H1
                  clear H1
                  by_cases c12 : (((rd_T40 l0 x10_1).f1).length : Int) > 65535
                  · rw [if_pos c12] at H
                    have c12b0 : decide (65535 < (((rd_T40 l0 x10_1).f1).length : Int)) = true := decide_eq_true c12
                    have c12b1 : decide (65535 < ((rd_T40 l0 x10_1).f1).length) = true := decide_eq_true (by omega)
                    clear c12
                    simp only [Option.some.injEq, Prod.mk.injEq] at H
                    obtain ⟨rfl, rfl⟩ := H
                    have hcz13_0 : wc.cell? ⟨gb102, 0, none⟩ = some (.int .i64 ((rd_T40 l0 x10_1).f0)) := (blk_cell BK102.out 0).trans rfl
                    have hcz13_1 : wc.cell? ⟨gb102, 1, none⟩ = some (.slice A101_1 ((rd_T40 l0 x10_1).f1).length c101_1) := (blk_cell BK102.out 1).trans rfl
                    have hfz13_0 := blk_frozen BK102.out 0
                    have hfz13_1 := blk_frozen BK102.out 1
                    go_wp2
                    go_ret2
                    exact ⟨_, by first | rfl | (simp [errW_none, errW_some] <;> rfl) | (simp [*, errW_none, errW_some] <;> rfl), by first | exact Kd.R_nil _ _ _ _ _ | exact Kd.N_nil _ _ _ _ _ | exact Kd.V_nil _ _ _ _ _ | exact Kd.Q_nil _ _ _ _ _ | exact Kd.S_nil _ _ _ _ _, by repeat (first | (with_reducible first | exact HB.out | apply below_alloc | apply pw_below_drewN | apply below_drew1 | refine below_set ?_ GE102.out) | exact HB.out)⟩
                  · rw [if_neg c12] at H
                    have c12b0 : decide (65535 < (((rd_T40 l0 x10_1).f1).length : Int)) = false := decide_eq_false c12
                    have c12b1 : decide (65535 < ((rd_T40 l0 x10_1).f1).length) = false := decide_eq_false (by omega)
                    clear c12
                    by_cases c14 : x4_1.length < 140737488355328
                    · rw [if_pos c14] at H
                      have LMc14 := Aside0.mk c14
                      clear c14
                      obtain ⟨y103, hy103⟩ : ∃ y_ : List Int, y_ = (x4_1 ++ [(((rd_T40 l0 x10_1).f0)) % 256]) := ⟨_, rfl⟩
                      replace H : (tlv_Join.l1 kj4 y103 l0 (l0.length : Int) x10_1 0 ((rd_T40 l0 x10_1).f0) ((rd_T40 l0 x10_1).f1)) = some (r1, r2) := by first | (rw [hy103]; with_reducible exact H) | (have H2_ := (Option.bind_some _ _).symm.trans H; rw [hy103]; with_reducible exact H2_) | (have H2_ := (Option.bind_some _ _).symm.trans H; with_reducible exact H2_) | with_reducible exact H | (rw [hy103]; exact H) | exact H
                      have Ny103 := Aside0.mk hy103
                      clear hy103
                      have H' := Aside0.mk H
                      clear H
                      have hcz15_0 : wc.cell? ⟨gb102, 0, none⟩ = some (.int .i64 ((rd_T40 l0 x10_1).f0)) := (blk_cell BK102.out 0).trans rfl
                      have hcz15_1 : wc.cell? ⟨gb102, 1, none⟩ = some (.slice A101_1 ((rd_T40 l0 x10_1).f1).length c101_1) := (blk_cell BK102.out 1).trans rfl
                      have hfz15_0 := blk_frozen BK102.out 0
                      have hfz15_1 := blk_frozen BK102.out 1
                      go_wp2_with (first | ((with_reducible refine gate_builtin (b := .append) (xs := #[.tmp 26, .tmp 30]) rfl ?_); at_builtin; refine Kd.R_append (Kd.int .u8) (w0 := w) w.heap.size rfl (.tmp 26) (.tmp 30) 22 5 (.int .u8 0) 1 rfl Try.underlying22 info5 rfl (by decide) (by omega) u4 x4_1 ((((rd_T40 l0 x10_1).f0)) % 256) [.int .u8 ((((rd_T40 l0 x10_1).f0)) % 256)] (fun _ => True) (fun _ => False) rfl rfl ?aP (fun _ hk => hk.elim) ?aF ?aO ?aB ?aS ?aL ?_; (case aP => exact rfl); (case aB => exact (by repeat (first | (with_reducible first | exact HB.out | apply below_alloc | apply pw_below_drewN | apply below_drew1 | refine below_set ?_ GE102.out) | exact HB.out))); (case aF => exact (fun _ _ => trivial)); (case aO => exact (by (with_reducible repeat (first | apply Kd.R_alloc | apply Kd.R_drewN | apply Kd.R_drew)); exact HO_4.out)); (case aS => exact (below_size (by repeat (first | (with_reducible first | exact HB.out | apply below_alloc | apply pw_below_drewN | apply below_drew1 | refine below_set ?_ GE102.out) | exact HB.out)))); (case aL => have := LMc14.out; omega); intro v104 w16 ho hb hg hat; rw [← Ny103.out] at ho; have n0_ := Aside0.mk (blk_grown (g := gb102) (o := .cells #[.int .i64 ((rd_T40 l0 x10_1).f0), .slice A101_1 ((rd_T40 l0 x10_1).f1).length c101_1] 40 (0, 0)) (by (with_reducible repeat (first | refine blk_drewN ?_ _ | refine blk_drew ?_ | refine blk_alloc ?_ _)); exact BK102.out) hg (Kd.R_ne HO_4.out BK102.out (by decide))); have n1_ := Aside0.mk (hb); have n2_ := Aside0.mk (ho); clear BK102; clear HB; clear HO_4; have BK102 := n0_; have HB := n1_; have HO105 := n2_; clear n0_ n1_ n2_; clear ho hb hg hat))
                      go_loopg [4, 32] kj4 (fun kq v4 v32 w' => ∃ (x4_3 : List Int) (x32_3 : Int), v32 = .int .i64 x32_3 ∧ Aside0 (tlv_Join.l1 kq x4_3 l0 (l0.length : Int) x10_1 x32_3 ((rd_T40 l0 x10_1).f0) ((rd_T40 l0 x10_1).f1) = some (r1, r2)) ∧ Aside0 (kq ≤ kj4) ∧ Aside0 (Kd.R (Kd.int .u8) 5 w' w.heap.size (fun _ => True) v4 x4_3) ∧ Aside0 (w'.heap[gb102]? = some (.cells #[.int .i64 ((rd_T40 l0 x10_1).f0), (.slice A101_1 ((rd_T40 l0 x10_1).f1).length c101_1)] 40 (0, 0))) ∧ Aside0 (Below w.heap.size w w'))
                      case atStart => exact ⟨(y103), (0), (by first | rfl | (simp; done) | (simp [*]; done)), H', ⟨Nat.le_refl _⟩, ⟨by (with_reducible repeat (first | apply Kd.R_alloc | apply Kd.R_drewN | apply Kd.R_drew)); exact HO105.out⟩, ⟨by (with_reducible repeat (first | refine blk_drewN ?_ _ | refine blk_drew ?_ | refine blk_alloc ?_ _)); exact BK102.out⟩, ⟨by repeat (first | (with_reducible first | exact HB.out | apply below_alloc | apply pw_below_drewN | apply below_drew1 | refine below_set ?_ GE102.out) | exact HB.out)⟩⟩
                      case round =>
                        clear H'
                        try clear c1
                        try clear p1
                        try clear q1
                        try clear hx1
                        try clear c2
                        try clear c2b0
                        try clear p2
                        try clear c3
                        try clear c3b0
                        try clear c4
                        try clear c4b0
                        try clear c8
                        try clear c8b0
                        try clear c10
                        try clear p10
                        try clear q10
                        try clear hx10
                        try clear c11
                        try clear c12
                        try clear c12b0
                        try clear c12b1
                        try clear c14
                        try clear hcz10_0
                        try clear hcz10_1
                        try clear hcz13_0
                        try clear hcz13_1
                        try clear hcz15_0
                        try clear hcz15_1
                        try clear hcz7_0
                        try clear hcz7_1
                        try clear hcz9_0
                        try clear hcz9_1
                        try clear hfz10_0
                        try clear hfz10_1
                        try clear hfz13_0
                        try clear hfz13_1
                        try clear hfz15_0
                        try clear hfz15_1
                        try clear hfz7_0
                        try clear hfz7_1
                        try clear hfz9_0
                        try clear hfz9_1
                        try clear hx101_0
                        try clear hx101_1
                        try clear p1
                        try clear p10
                        try clear p101
                        try clear p2
                        try clear q1
                        try clear q10
                        try clear q101
                        obtain ⟨x4_3, x32_3, rfl, HA, HK3, HO_4, BK102, HB⟩ := hrel
                        cases gk with
                        | zero => exact absurd HA.out (by simp [tlv_Join.l1])
                        | succ k3 =>
                          have H := HA.out
                          clear HA
                          simp only [tlv_Join.l1] at H
                          by_cases c17 : x32_3 < 2
                          · rw [if_pos c17] at H
                            have c17b0 : decide (x32_3 < 2) = true := decide_eq_true c17
                            clear c17
                            obtain ⟨ji18, hji18⟩ : ∃ j_ : Int, (wrap64 (8 - (wrap64 (8 * x32_3)))) = j_ := ⟨_, rfl⟩
                            replace H : (if 0 ≤ (ji18) then (if x4_3.length < 140737488355328 then (tlv_Join.l1 k3 (x4_3 ++ [(shr .i64 (((rd_T40 l0 x10_1).f1).length : Int) (ji18)) % 256]) l0 (l0.length : Int) x10_1 (wrap64 (x32_3 + 1)) ((rd_T40 l0 x10_1).f0) ((rd_T40 l0 x10_1).f1)) else (none)) else (none)) = some (r1, r2) := by first | (rw [hji18] at H; exact H) | (simp only [hji18] at H ⊢; exact H)
                            have hji18w : (IntKind.i64.wrap (8 - (wrap64 (8 * x32_3)))) = ji18 := (i64_w _).trans hji18
                            by_cases c19 : 0 ≤ (ji18)
                            · rw [if_pos c19] at H
                              have c19b0 := eq_true c19
                              have c19b1 : decide (0 ≤ (ji18)) = true := decide_eq_true c19
                              clear c19
                              obtain ⟨ji20, hji20⟩ : ∃ j_ : Int, (shr .i64 (((rd_T40 l0 x10_1).f1).length : Int) (ji18)) = j_ := ⟨_, rfl⟩
                              replace H : (if x4_3.length < 140737488355328 then (tlv_Join.l1 k3 (x4_3 ++ [(ji20) % 256]) l0 (l0.length : Int) x10_1 (wrap64 (x32_3 + 1)) ((rd_T40 l0 x10_1).f0) ((rd_T40 l0 x10_1).f1)) else (none)) = some (r1, r2) := by first | (rw [hji20] at H; exact H) | (simp only [hji20] at H ⊢; exact H)
                              have hji20_ : ((((rd_T40 l0 x10_1).f1).length : Int) / 2 ^ min (ji18).toNat 64) = ji20 := hji20
                              have hji20z : (ji18) ≤ 64 → ((((rd_T40 l0 x10_1).f1).length : Int) / 2 ^ (ji18).toNat) = ji20 := shr_small hji20
                              by_cases c21 : x4_3.length < 140737488355328
                              · rw [if_pos c21] at H
                                have LMc21 := Aside0.mk c21
                                clear c21
                                obtain ⟨y106, hy106⟩ : ∃ y_ : List Int, y_ = (x4_3 ++ [(ji20) % 256]) := ⟨_, rfl⟩
                                replace H : (tlv_Join.l1 k3 y106 l0 (l0.length : Int) x10_1 (wrap64 (x32_3 + 1)) ((rd_T40 l0 x10_1).f0) ((rd_T40 l0 x10_1).f1)) = some (r1, r2) := by first | (rw [hy106]; with_reducible exact H) | (have H2_ := (Option.bind_some _ _).symm.trans H; rw [hy106]; with_reducible exact H2_) | (have H2_ := (Option.bind_some _ _).symm.trans H; with_reducible exact H2_) | with_reducible exact H | (rw [hy106]; exact H) | exact H
                                have Ny106 := Aside0.mk hy106
                                clear hy106
                                have H' := Aside0.mk H
                                clear H
                                have hcz22_0 : wr.cell? ⟨gb102, 0, none⟩ = some (.int .i64 ((rd_T40 l0 x10_1).f0)) := (blk_cell BK102.out 0).trans rfl
                                have hcz22_1 : wr.cell? ⟨gb102, 1, none⟩ = some (.slice A101_1 ((rd_T40 l0 x10_1).f1).length c101_1) := (blk_cell BK102.out 1).trans rfl
                                have hfz22_0 := blk_frozen BK102.out 0
                                have hfz22_1 := blk_frozen BK102.out 1
                                go_wp2_with (first | ((with_reducible refine gate_builtin (b := .append) (xs := #[.tmp 35, .tmp 44]) rfl ?_); at_builtin; refine Kd.R_append (Kd.int .u8) (w0 := w) w.heap.size rfl (.tmp 35) (.tmp 44) 22 5 (.int .u8 0) 1 rfl Try.underlying22 info5 rfl (by decide) (by omega) u4 x4_3 ((ji20) % 256) [.int .u8 ((ji20) % 256)] (fun _ => True) (fun _ => False) rfl rfl ?aP (fun _ hk => hk.elim) ?aF ?aO ?aB ?aS ?aL ?_; (case aP => exact rfl); (case aB => exact (by repeat (first | (with_reducible first | exact HB.out | apply below_alloc | apply pw_below_drewN | apply below_drew1 | refine below_set ?_ GE102.out) | exact HB.out))); (case aF => exact (fun _ _ => trivial)); (case aO => exact (by (with_reducible repeat (first | apply Kd.R_alloc | apply Kd.R_drewN | apply Kd.R_drew)); exact HO_4.out)); (case aS => exact (below_size (by repeat (first | (with_reducible first | exact HB.out | apply below_alloc | apply pw_below_drewN | apply below_drew1 | refine below_set ?_ GE102.out) | exact HB.out)))); (case aL => have := LMc21.out; omega); intro v107 w23 ho hb hg hat; rw [← Ny106.out] at ho; have n0_ := Aside0.mk (blk_grown (g := gb102) (o := .cells #[.int .i64 ((rd_T40 l0 x10_1).f0), .slice A101_1 ((rd_T40 l0 x10_1).f1).length c101_1] 40 (0, 0)) (by (with_reducible repeat (first | refine blk_drewN ?_ _ | refine blk_drew ?_ | refine blk_alloc ?_ _)); exact BK102.out) hg (Kd.R_ne HO_4.out BK102.out (by decide))); have n1_ := Aside0.mk (hb); have n2_ := Aside0.mk (ho); clear BK102; clear HB; clear HO_4; have BK102 := n0_; have HB := n1_; have HO108 := n2_; clear n0_ n1_ n2_; clear ho hb hg hat))
                                go_roundg k3
                                case measure => have := HK1.out; have := HJ4.out; have := HK3.out; omega
                                case rel => exact ⟨(y106), (wrap64 (x32_3 + 1)), (by first | rfl | (simp; done) | (simp [*]; done)), H', ⟨by have := HK1.out; have := HJ4.out; have := HK3.out; omega⟩, ⟨by (with_reducible repeat (first | apply Kd.R_alloc | apply Kd.R_drewN | apply Kd.R_drew)); exact HO108.out⟩, ⟨by (with_reducible repeat (first | refine blk_drewN ?_ _ | refine blk_drew ?_ | refine blk_alloc ?_ _)); exact BK102.out⟩, ⟨by repeat (first | (with_reducible first | exact HB.out | apply below_alloc | apply pw_below_drewN | apply below_drew1 | refine below_set ?_ GE102.out) | exact HB.out)⟩⟩
                              · rw [if_neg c21] at H
                                exact absurd H (by simp)
                            · rw [if_neg c19] at H
                              exact absurd H (by simp)
                          · rw [if_neg c17] at H
                            have c17b0 : decide (x32_3 < 2) = false := decide_eq_false c17
                            clear c17
                            by_cases c24 : x4_3.length + ((rd_T40 l0 x10_1).f1).length < 140737488355328
                            · rw [if_pos c24] at H
                              have LMc24 := Aside0.mk c24
                              clear c24
                              obtain ⟨y109, hy109⟩ : ∃ y_ : List Int, y_ = (x4_3 ++ ((rd_T40 l0 x10_1).f1)) := ⟨_, rfl⟩
                              replace H : (tlv_Join.l0 k3 y109 l0 (l0.length : Int) (wrap64 (x10_1 + 1))) = some (r1, r2) := by first | (rw [hy109]; with_reducible exact H) | (have H2_ := (Option.bind_some _ _).symm.trans H; rw [hy109]; with_reducible exact H2_) | (have H2_ := (Option.bind_some _ _).symm.trans H; with_reducible exact H2_) | with_reducible exact H | (rw [hy109]; exact H) | exact H
                              have Ny109 := Aside0.mk hy109
                              clear hy109
                              have H' := Aside0.mk H
                              clear H
                              have hcz25_0 : wr.cell? ⟨gb102, 0, none⟩ = some (.int .i64 ((rd_T40 l0 x10_1).f0)) := (blk_cell BK102.out 0).trans rfl
                              have hcz25_1 : wr.cell? ⟨gb102, 1, none⟩ = some (.slice A101_1 ((rd_T40 l0 x10_1).f1).length c101_1) := (blk_cell BK102.out 1).trans rfl
                              have hfz25_0 := blk_frozen BK102.out 0
                              have hfz25_1 := blk_frozen BK102.out 1
                              go_wp2_with (first | ((with_reducible refine gate_builtin (b := .append) (xs := #[.tmp 47, .tmp 49]) rfl ?_); at_builtin; refine Kd.R_append_rows (Kd.int .u8) (w0 := w) w.heap.size rfl (.tmp 47) (.tmp 49) 22 5 (.int .u8 0) 1 rfl Try.underlying22 info5 rfl (by decide) (by omega) u4 x4_3 ((rd_T40 l0 x10_1).f1) _ _ _ (fun _ => True) (fun _ => False) rfl rfl ?aO ?aR (fun _ _ h => h) (fun _ h => h.elim) ?aF ?aB ?aS ?aL ?_; (case aR => repeat (first | exact (Kd.C_below HR101_1.out HB.out) | (with_reducible refine Kd.C_alloc ?_ _) | (with_reducible refine Kd.C_drewN ?_ _) | (with_reducible refine Kd.C_drew ?_))); (case aB => exact (by repeat (first | (with_reducible first | exact HB.out | apply below_alloc | apply pw_below_drewN | apply below_drew1 | refine below_set ?_ GE102.out) | exact HB.out))); (case aF => exact (fun _ _ => trivial)); (case aO => exact (by (with_reducible repeat (first | apply Kd.R_alloc | apply Kd.R_drewN | apply Kd.R_drew)); exact HO_4.out)); (case aS => exact (below_size (by repeat (first | (with_reducible first | exact HB.out | apply below_alloc | apply pw_below_drewN | apply below_drew1 | refine below_set ?_ GE102.out) | exact HB.out)))); (case aL => have := LMc24.out; omega); intro v110 w26 ho hb hg hat; rw [← Ny109.out] at ho; have n0_ := Aside0.mk (blk_grown (g := gb102) (o := .cells #[.int .i64 ((rd_T40 l0 x10_1).f0), .slice A101_1 ((rd_T40 l0 x10_1).f1).length c101_1] 40 (0, 0)) (by (with_reducible repeat (first | refine blk_drewN ?_ _ | refine blk_drew ?_ | refine blk_alloc ?_ _)); exact BK102.out) hg (Kd.R_ne HO_4.out BK102.out (by decide))); have n1_ := Aside0.mk (hb); have n2_ := Aside0.mk (ho); clear BK102; clear HB; clear HO_4; have BK102 := n0_; have HB := n1_; have HO111 := n2_; clear n0_ n1_ n2_; clear ho hb hg hat))
                              go_roundg k3
                              case measure => have := HK1.out; have := HJ4.out; have := HK3.out; omega
                              case rel => exact ⟨(y109), (wrap64 (x10_1 + 1)), (by first | rfl | (simp; done) | (simp [*]; done)), H', ⟨by have := HK1.out; have := HJ4.out; have := HK3.out; omega⟩, ⟨by (with_reducible repeat (first | apply Kd.R_alloc | apply Kd.R_drewN | apply Kd.R_drew)); exact HO111.out⟩, ⟨by repeat (first | (with_reducible first | exact HB.out | apply below_alloc | apply pw_below_drewN | apply below_drew1 | refine below_set ?_ GE102.out) | exact HB.out)⟩⟩
                            · rw [if_neg c24] at H
                              exact absurd H (by simp)
                    · rw [if_neg c14] at H
                      exact absurd H (by simp)
          · rw [if_neg c4] at H
            exact absurd H (by simp)
        · rw [if_neg c3] at H
          exact absurd H (by simp)
      · rw [if_neg c2] at H
        have c2b0 : decide (x10_1 < (l0.length : Int)) = false := decide_eq_false c2
        clear c2
        simp only [Option.some.injEq, Prod.mk.injEq] at H
        obtain ⟨rfl, rfl⟩ := H
        go_wp2
        go_ret2
        exact ⟨_, by first | rfl | (simp [errW_none, errW_some] <;> rfl) | (simp [*, errW_none, errW_some] <;> rfl), by (with_reducible repeat (first | apply Kd.R_alloc | apply Kd.R_drewN | apply Kd.R_drew)); exact HO_4.out, by repeat (first | (with_reducible first | exact HB.out | apply below_alloc | apply pw_below_drewN | apply below_drew1) | exact HB.out)⟩

/-- A reader at block g of W; its bytes lie in a block that nobody else has. -/
def IsS70 (w0 W : World) (g : Nat) (f0 : Octet.Rd) : Prop := (∃ ob, Octet.Is W g ob f0 ∧ w0.heap.size ≤ ob) ∧ w0.heap.size ≤ g
def Off70 (W : World) (g : Nat) (row : Option Nat) : Prop := ∀ k, row = some k → k ≠ g ∧ ∀ ob s, Octet.Is W g ob s → k ≠ ob
theorem IsS70.grown {w0 W : World} {g : Nat} {f0 : Octet.Rd} {W1 : World} {row : Option Nat} (h : IsS70 w0 W g f0) (hw : W.grownBy W1 row) (hne : ∀ k, row = some k → k ≠ g ∧ ∀ ob s, Octet.Is W g ob s → k ≠ ob) : IsS70 w0 W1 g f0 := by
  obtain ⟨⟨ob, hI, ho⟩, hg⟩ := h
  have n1 : some g ≠ row := fun e => (hne g e.symm).1 rfl
  have n2 : some ob ≠ row := fun e => (hne ob e.symm).2 ob f0 hI rfl
  exact ⟨⟨ob, ⟨blk_grown hI.hg hw n1, blk_grown hI.ho hw n2, hI.ne, hI.le, hI.few⟩, ho⟩, hg⟩
theorem IsS70.below {w0 W : World} {g : Nat} {f0 : Octet.Rd} {W1 : World} (h : IsS70 w0 W g f0) (hw : Below W.heap.size W W1) : IsS70 w0 W1 g f0 := h.grown (grown_of_below hw none) (fun k e => by cases e)
theorem IsS70.alloc {w0 W : World} {g : Nat} {f0 : Octet.Rd} (h : IsS70 w0 W g f0) (o : Obj) : IsS70 w0 (W.alloc o) g f0 := h.below (below_alloc (Below.refl _ _) o)
theorem IsS70.drewN {w0 W : World} {g : Nat} {f0 : Octet.Rd} (h : IsS70 w0 W g f0) (m : Nat) : IsS70 w0 (W.drewN m) g f0 := by
  obtain ⟨⟨ob, hI, ho⟩, hg⟩ := h
  exact ⟨⟨ob, hI.drewN m, ho⟩, hg⟩
theorem IsS70.drew {w0 W : World} {g : Nat} {f0 : Octet.Rd} (h : IsS70 w0 W g f0) : IsS70 w0 W.drew g f0 := h.drewN 1
theorem IsS70.at_ {w0 W : World} {g : Nat} {f0 : Octet.Rd} {w' : World} {m : Nat} (hq : W.drewN m = w') (h : IsS70 w0 W g f0) : IsS70 w0 w' g f0 := by subst hq; exact IsS70.drewN h m
theorem IsS70.lt {w0 W : World} {g : Nat} {f0 : Octet.Rd} (h : IsS70 w0 W g f0) : g < W.heap.size := by
  obtain ⟨⟨ob, hI, ho⟩, hg⟩ := h
  exact blk_lt hI.hg
theorem IsS70.ge {w0 W : World} {g : Nat} {f0 : Octet.Rd} (h : IsS70 w0 W g f0) : w0.heap.size ≤ g := h.2
theorem IsS70.fresh {w0 W : World} {g : Nat} {f0 : Octet.Rd} (h : IsS70 w0 W g f0) : ∀ k, W.heap.size ≤ k → k ≠ g := fun k hk => by have := h.lt; omega
theorem IsS70.apart {w0 W : World} {g : Nat} {f0 : Octet.Rd} {α : Type} {d : Kd α} {e : Nat} {base : Nat} {ok : Nat → Prop} {v : Value} {xs : List α} (h : IsS70 w0 W g f0) (ho : d.R e W base ok v xs) (ht : ∀ q, q ∈ e :: d.E → q ≠ 70) : d.R e W base (fun k => ok k ∧ k ≠ g) v xs := by
  obtain ⟨⟨ob, hI, _⟩, hg⟩ := h
  exact Kd.R_types ho hI.hg ht
theorem IsS70.apartQ {w0 W : World} {g : Nat} {f0 : Octet.Rd} {α : Type} {d : Kd α} {e : Nat} {base : Nat} {ok : Nat → Prop} {v : Value} {xs : List α} (h : IsS70 w0 W g f0) (ho : d.Q e W base ok v xs) (ht : ∀ q, q ∈ e :: d.E → q ≠ 70) : d.Q e W base (fun k => ok k ∧ k ≠ g) v xs := by
  obtain ⟨⟨ob, hI, _⟩, hg⟩ := h
  exact Kd.Q_types ho hI.hg ht
theorem IsS70.apartS {w0 W : World} {g : Nat} {f0 : Octet.Rd} {α : Type} {d : Kd α} {e : Nat} {base : Nat} {ok : Nat → Prop} {v : Value} {xs : List α} (h : IsS70 w0 W g f0) (ho : d.S e W base ok v xs) (ht : ∀ q, q ∈ e :: d.E → q ≠ 70) : d.S e W base (fun k => ok k ∧ k ≠ g) v xs := by
  obtain ⟨⟨ob, hI, _⟩, hg⟩ := h
  exact Kd.S_types ho hI.hg ht
theorem IsS70.own_ne {w0 W : World} {g : Nat} {f0 : Octet.Rd} {α : Type} {d : Kd α} {e : Nat} {base : Nat} {ok : Nat → Prop} {v : Value} {xs : List α} (h : IsS70 w0 W g f0) (ho : d.R e W base ok v xs) (ht : e ≠ 70 ∧ e ≠ 5) : ∀ k, v.ownBlock = some k → k ≠ g ∧ ∀ ob s, Octet.Is W g ob s → k ≠ ob := by
  obtain ⟨⟨_, hI, _⟩, hg⟩ := h
  exact fun k hk => ⟨fun e_ => Kd.R_ne ho hI.hg ht.1 (by rw [hk, e_]), fun ob s hJ e_ => Kd.R_ne ho hJ.ho ht.2 (by rw [hk, e_])⟩
theorem IsS70.own_neQ {w0 W : World} {g : Nat} {f0 : Octet.Rd} {α : Type} {d : Kd α} {e : Nat} {base : Nat} {ok : Nat → Prop} {v : Value} {xs : List α} (h : IsS70 w0 W g f0) (ho : d.Q e W base ok v xs) (ht : e ≠ 70 ∧ e ≠ 5) : ∀ k, v.ownBlock = some k → k ≠ g ∧ ∀ ob s, Octet.Is W g ob s → k ≠ ob := by
  obtain ⟨⟨_, hI, _⟩, hg⟩ := h
  exact fun k hk => ⟨fun e_ => Kd.Q_ne ho hI.hg ht.1 (by rw [hk, e_]), fun ob s hJ e_ => Kd.Q_ne ho hJ.ho ht.2 (by rw [hk, e_])⟩
theorem IsS70.own_neS {w0 W : World} {g : Nat} {f0 : Octet.Rd} {α : Type} {d : Kd α} {e : Nat} {base : Nat} {ok : Nat → Prop} {v : Value} {xs : List α} (h : IsS70 w0 W g f0) (ho : d.S e W base ok v xs) (ht : e ≠ 70 ∧ e ≠ 5) : ∀ k, v.ownBlock = some k → k ≠ g ∧ ∀ ob s, Octet.Is W g ob s → k ≠ ob := by
  obtain ⟨⟨_, hI, _⟩, hg⟩ := h
  exact fun k hk => ⟨fun e_ => Kd.S_ne ho hI.hg ht.1 (by rw [hk, e_]), fun ob s hJ e_ => Kd.S_ne ho hJ.ho ht.2 (by rw [hk, e_])⟩
theorem IsS70.own_neN {w0 W : World} {g : Nat} {f0 : Octet.Rd} {α : Type} {d : Kd α} {e : Nat} {base : Nat} {ok : Nat → Prop} {v : Value} {xs : List α} (h : IsS70 w0 W g f0) (ho : Kd.N d e W base ok v xs) (ht : e ≠ 70 ∧ e ≠ 5) : ∀ k, v.ownBlock = some k → k ≠ g ∧ ∀ ob s, Octet.Is W g ob s → k ≠ ob := by
  obtain ⟨⟨_, hI, _⟩, hg⟩ := h
  exact fun k hk => ⟨fun e_ => Kd.N_ne ho hI.hg ht.1 (by rw [hk, e_]), fun ob s hJ e_ => Kd.N_ne ho hJ.ho ht.2 (by rw [hk, e_])⟩
theorem IsS70.far {w0 W : World} {g : Nat} {f0 : Octet.Rd} (h : IsS70 w0 W g f0) {p : Addr} (hp : g ≠ p.block) (u : Value) (ht : ∃ cs t, W.heap[p.block]? = some (.cells cs t (0, 0)) ∧ t ≠ 5 := by first | exact ⟨_, _, Aside0.out (by assumption), by decide⟩ | exact ⟨_, _, blk_set (Aside0.out (by assumption)) _ _, by decide⟩ | exact ⟨_, _, blk_set (blk_set (Aside0.out (by assumption)) _ _) _ _, by decide⟩) : IsS70 w0 (W.setCell p u) g f0 := by
  obtain ⟨⟨ob, hI, ho⟩, hg⟩ := h
  obtain ⟨cs, t, hc, ht⟩ := ht
  have hne : ob ≠ p.block := fun e => by
    have h1 := hI.ho
    rw [e, hc] at h1
    injection h1 with h1
    injection h1 with _ h2
    exact ht h2
  exact ⟨⟨ob, ⟨blk_far hI.hg hp u, blk_far hI.ho hne u, hI.ne, hI.le, hI.few⟩, ho⟩, hg⟩

/-! ### octet_Read: function 16: BY HAND -/
def octet_Read.f (l0 : List Int) : Option Octet.Rd := if l0.length ≤ 1000000 then some ⟨l0, 0, false⟩ else none
theorem octet_Read.calls (A0 : Option Addr) (c0 : Nat) (l0 : List Int) (r : Octet.Rd) (w0 w : World) (hB : Below w0.heap.size w0 w) (hr0 : Kd.C (Kd.int .u8) w A0 l0.length l0) (hc0 : l0.length ≤ c0) (h : octet_Read.f l0 = some r) :
    Calls Try.prog 16 #[.slice A0 l0.length c0] w fun e w' => ∃ g_ : Nat, e = .returned (.pointer (some ⟨g_, 0, none⟩)) ∧ IsS70 w0 w' g_ r ∧ Below w0.heap.size w0 w' ∧ Below w.heap.size w w' := by
  unfold octet_Read.f at h
  split at h
  · rename_i hm
    obtain rfl := Option.some.inj h
    refine (Octet.read_new A0 l0 c0 w hr0 hm).mono ?_
    rintro e w' ⟨g, ob, rfl, h1, h2, h3, h4, h5, h6⟩
    have := hB.size
    exact ⟨g, rfl, ⟨⟨ob, ⟨h1, h2, by omega, Nat.zero_le _, hm⟩, by omega⟩, by omega⟩, hB.trans (Octet.below_le h6 hB.size), h6⟩
  · cases h


/-! ### octet_Reader_Take: function 18: BY HAND -/
def octet_Reader_Take.f (s0_0 : Octet.Rd) (a1 : Int) : Option (List Int × Octet.Rd) := some ((Octet.stepF s0_0 a1).1.getD [], (Octet.stepF s0_0 a1).2)
theorem octet_Reader_Take.calls (g : Nat) (s0_0 : Octet.Rd) (a1 : Int) (r1 : List Int) (r2 : Octet.Rd) (w0 w : World) (hI : IsS70 w0 w g s0_0) (hB : Below w0.heap.size w0 w) (h : octet_Reader_Take.f s0_0 a1 = some (r1, r2)) :
    Calls Try.prog 18 #[.pointer (some ⟨g, 0, none⟩), .int .i64 a1] w fun e w' => ∃ v0_ : Value, e = .returned (v0_) ∧ Kd.R (Kd.int .u8) 5 w' w.heap.size (fun _ => True) v0_ r1 ∧ IsS70 w0 w' g r2 ∧ Below w0.heap.size w0 w' ∧ KeepBut w w' g none := by
  obtain ⟨⟨ob, hI, ho⟩, hg⟩ := hI
  obtain ⟨rfl, rfl⟩ := Prod.mk.inj (Option.some.inj h)
  refine (Octet.take_all g ob s0_0 a1 w hI _ _ rfl).mono ?_
  rintro e w' ⟨v, rfl, h1, h2, h3, h4⟩
  exact ⟨v, rfl, h1, ⟨⟨ob, h2, ho⟩, hg⟩, hB.trans (h4 _ hg hB.size), h3⟩


/-! ### octet_Reader_Num: function 19: BY HAND -/
def octet_Reader_Num.f (s0_0 : Octet.Rd) (a1 : Int) : Option (Int × Octet.Rd) :=
  if ((Octet.stepF s0_0 (Octet.numN a1)).1.getD []).all (fun c => decide (0 ≤ c ∧ c ≤ 255)) = true then some (Octet.num ((Octet.stepF s0_0 (Octet.numN a1)).1.getD []), (Octet.stepF s0_0 (Octet.numN a1)).2) else none
theorem octet_Reader_Num.calls (g : Nat) (s0_0 : Octet.Rd) (a1 : Int) (r1 : Int) (r2 : Octet.Rd) (w0 w : World) (hI : IsS70 w0 w g s0_0) (hB : Below w0.heap.size w0 w) (h : octet_Reader_Num.f s0_0 a1 = some (r1, r2)) :
    Calls Try.prog 19 #[.pointer (some ⟨g, 0, none⟩), .int .i64 a1] w fun e w' => e = .returned (.int .i64 r1) ∧ IsS70 w0 w' g r2 ∧ Below w0.heap.size w0 w' ∧ KeepBut w w' g none := by
  obtain ⟨⟨ob, hI, ho⟩, hg⟩ := hI
  unfold octet_Reader_Num.f at h
  split at h
  · rename_i hall
    obtain ⟨rfl, rfl⟩ := Prod.mk.inj (Option.some.inj h)
    refine (Octet.num_all g ob s0_0 a1 w hI _ _ rfl (fun p hp c hc => ?_)).mono ?_
    · have hq : (Octet.stepF s0_0 (Octet.numN a1)).1 = some p := hp
      rw [hq] at hall
      have := List.all_eq_true.1 hall c (by simpa using hc)
      simpa using this
    · rintro e w' ⟨rfl, h2, h3, h4⟩
      exact ⟨rfl, ⟨⟨ob, h2, ho⟩, hg⟩, hB.trans (h4 _ hg), h3⟩
  · cases h


/-! ### octet_Reader_Left: function 32: BY HAND -/
def octet_Reader_Left.f (s0_0 : Octet.Rd) : Option (Int × Octet.Rd) := some (if s0_0.bad = true then 0 else (s0_0.b.length : Int) - s0_0.at_, s0_0)
theorem octet_Reader_Left.calls (g : Nat) (s0_0 : Octet.Rd) (r1 : Int) (r2 : Octet.Rd) (w0 w : World) (hI : IsS70 w0 w g s0_0) (hB : Below w0.heap.size w0 w) (h : octet_Reader_Left.f s0_0 = some (r1, r2)) :
    Calls Try.prog 32 #[.pointer (some ⟨g, 0, none⟩)] w fun e w' => e = .returned (.int .i64 r1) ∧ IsS70 w0 w' g r2 ∧ Below w0.heap.size w0 w' ∧ KeepBut w w' g none := by
  obtain ⟨⟨ob, hI, ho⟩, hg⟩ := hI
  obtain ⟨rfl, rfl⟩ := Prod.mk.inj (Option.some.inj h)
  refine (Octet.left_is g ob _ w hI).mono ?_
  rintro e w' ⟨rfl, m, rfl⟩
  exact ⟨rfl, ⟨⟨ob, hI.drewN m, ho⟩, hg⟩, pw_below_drewN hB m, keep_drewN (KeepBut.refl _ _ _) m⟩


/-! ### octet_Reader_Bad: function 47: BY HAND -/
def octet_Reader_Bad.f (s0_0 : Octet.Rd) : Option (Bool × Octet.Rd) := some (s0_0.bad, s0_0)
theorem octet_Reader_Bad.calls (g : Nat) (s0_0 : Octet.Rd) (r1 : Bool) (r2 : Octet.Rd) (w0 w : World) (hI : IsS70 w0 w g s0_0) (hB : Below w0.heap.size w0 w) (h : octet_Reader_Bad.f s0_0 = some (r1, r2)) :
    Calls Try.prog 47 #[.pointer (some ⟨g, 0, none⟩)] w fun e w' => e = .returned (.bool r1) ∧ IsS70 w0 w' g r2 ∧ Below w0.heap.size w0 w' ∧ KeepBut w w' g none := by
  obtain ⟨⟨ob, hI, ho⟩, hg⟩ := hI
  obtain ⟨rfl, rfl⟩ := Prod.mk.inj (Option.some.inj h)
  refine (Octet.bad_is g ob _ w hI).mono ?_
  rintro e w' ⟨rfl, rfl⟩
  exact ⟨rfl, ⟨⟨ob, hI, ho⟩, hg⟩, hB, KeepBut.refl _ _ _⟩


/-! ### tlv_Split: function 43 -/
def tlv_Split.l0 : Nat → List (S40) → Octet.Rd → Option ((List (S40)) × Int)
  | 0, _, _ => none
  | k + 1, x4, x114000 => (octet_Reader_Left.f x114000).bind fun bt114 => (if bt114.1 > 0 then ((octet_Reader_Num.f bt114.2 1).bind fun bt116 => ((octet_Reader_Num.f bt116.2 2).bind fun bt119 => ((octet_Reader_Take.f bt119.2 bt119.1).bind fun bt121 => ((octet_Reader_Bad.f bt121.2).bind fun bt125 => (if bt125.1 = true then (some (([] : List (S40)), 2)) else (if x4.length < 4398046511104 then (tlv_Split.l0 k (x4 ++ [(⟨bt116.1, bt121.1⟩ : S40)]) bt125.2) else (none))))))) else (some (x4, 0)))
def tlv_Split.f (k : Nat) (l0 : List Int) : Option ((List (S40)) × Int) := (octet_Read.f l0).bind fun t112 => (tlv_Split.l0 k ([] : List (S40)) t112)
theorem tlv_Split.mono_l : ∀ k, (∀ y0 y1, LeO (tlv_Split.l0 k y0 y1) (tlv_Split.l0 (k + 1) y0 y1))
  | 0 => fun _ _ r h => by simp [tlv_Split.l0] at h
  | k + 1 => by
    have ih0 := tlv_Split.mono_l k
    · intro y0 y1
      unfold tlv_Split.l0
      repeat' first
      | (with_reducible exact ih0 _ _)
      | (with_reducible exact LeO.refl _)
      | (with_reducible exact LeO.none _)
      | (with_reducible refine LeO.ite ?_ ?_)
      | (with_reducible refine LeO.bind ?_ (fun _ => ?_))
      | exact ih0 _ _
      | exact LeO.none _
      | refine LeO.ite ?_ ?_
      | refine LeO.bind ?_ (fun _ => ?_)
theorem tlv_Split.mono : ∀ a0 k, LeO (tlv_Split.f k a0) (tlv_Split.f (k + 1) a0) := by
  intro a0 k
  have ih0 := tlv_Split.mono_l k
  unfold tlv_Split.f
  repeat' first
      | (with_reducible exact ih0 _ _)
      | (with_reducible exact LeO.refl _)
      | (with_reducible exact LeO.none _)
      | (with_reducible refine LeO.ite ?_ ?_)
      | (with_reducible refine LeO.bind ?_ (fun _ => ?_))
      | exact ih0 _ _
      | exact LeO.none _
      | refine LeO.ite ?_ ?_
      | refine LeO.bind ?_ (fun _ => ?_)
set_option maxHeartbeats 8000000 in
set_option maxRecDepth 100000 in
theorem tlv_Split.calls (k : Nat) (A0 : Option Addr) (c0 : Nat) (l0 : List Int) (r1 : List (S40)) (r2 : Int) (w : World) (hr0 : Kd.C (Kd.int .u8) w A0 l0.length l0) (hc0 : l0.length ≤ c0) (h : tlv_Split.f k l0 = some (r1, r2)) :
    Calls Try.prog 43 #[.slice A0 l0.length c0] w fun e w' => ∃ v0_ : Value, e = .returned (.tuple #[v0_, .int .i64 r2]) ∧ Kd.S k40 40 w' w.heap.size (fun _ => True) v0_ r1 ∧ Below w.heap.size w w' := by
  have hu40 := Try.underlying40
  have HR0 := Aside0.mk hr0
  have HC0 := Aside0.mk hc0
  clear hr0 hc0
  have HB := Aside0.mk (Below.refl w.heap.size w)
  have H : ((octet_Read.f l0).bind fun t112 => (tlv_Split.l0 k ([] : List (S40)) t112)) = some (r1, r2) := h
  clear h
  replace H := Option.bind_eq_some_iff.mp H
  obtain ⟨t112, A20, H⟩ := H
  replace H : (tlv_Split.l0 k ([] : List (S40)) t112) = some (r1, r2) := H
  have A2 := Aside0.mk A20
  clear A20
  have H' := Aside0.mk H
  clear H
  go_enter Try.func43, Try.ntmps43
  go_wp2_with (first | ((with_reducible refine gate_callee (f := 16) rfl ?_); refine goesL_ (some 8) rfl rfl Try.func16 (by kernel_rfl) rfl #[.slice A0 l0.length c0] rfl (by (try simp only [List.map_toArray, List.map_cons, List.map_nil]); first | done | rfl | (simp only [List.length_drop, List.length_take]; rfl)) ?_; (with_reducible refine (octet_Read.calls _ _ l0 t112 w _ ?side1 ?side2 ?side3 A2.out).mono ?_); (case side1 => repeat (first | (with_reducible first | exact HB.out | apply below_alloc | apply pw_below_drewN | apply below_drew1) | exact HB.out)); (case side2 => repeat (first | exact HR0.out | (with_reducible refine Kd.C_alloc ?_ _) | (with_reducible refine Kd.C_drewN ?_ _) | (with_reducible refine Kd.C_drew ?_))); (case side3 => exact HC0.out); rintro e w3 ⟨g113, rfl, hi, hb, hb2⟩; refine ⟨_, rfl, ?_⟩; have n0_ := Aside0.mk (hb); have n1_ := Aside0.mk (hi); clear HB; have HB := n0_; have HI113 := n1_; clear n0_ n1_; (try clear hb); (try clear hb2); (try clear hk); (try clear hi)))
  go_loopg [4] k (fun kq v4 w' => ∃ (x4_1 : List (S40)) (x114000_1 : Octet.Rd), Aside0 (tlv_Split.l0 kq x4_1 x114000_1 = some (r1, r2)) ∧ Aside0 (kq ≤ k) ∧ Aside0 (Kd.S k40 40 w' w.heap.size (fun _ => True) v4 x4_1) ∧ Aside0 (IsS70 w w' g113 x114000_1) ∧ Aside0 (Below w.heap.size w w'))
  case atStart => exact ⟨(([] : List (S40))), (t112), H', ⟨Nat.le_refl _⟩, ⟨by first | exact Kd.S_nil _ _ _ _ _ | exact Kd.N_nil _ _ _ _ _ | exact Kd.V_nil _ _ _ _ _ | exact Kd.Q_nil _ _ _ _ _ | exact Kd.R_nil _ _ _ _ _⟩, ⟨by repeat (first | (with_reducible first | exact HI113.out | apply IsS70.alloc | apply IsS70.drewN | apply IsS70.drew | apply IsS70.set_0) | exact HI113.out)⟩, ⟨by repeat (first | (with_reducible first | exact HB.out | apply below_alloc | apply pw_below_drewN | apply below_drew1 | refine below_set ?_ (IsS70.ge HI113.out)) | exact HB.out)⟩⟩
  case round =>
    clear H'
    try clear c1
    try clear p2
    obtain ⟨x4_1, x114000_1, HA, HK1, HO_4, HI113, HB⟩ := hrel
    cases gk with
    | zero => exact absurd HA.out (by simp [tlv_Split.l0])
    | succ k1 =>
      have H := HA.out
      clear HA
      simp only [tlv_Split.l0] at H
      replace H := Option.bind_eq_some_iff.mp H
      obtain ⟨⟨t114, t115⟩, A40, H⟩ := H
      replace H : (if t114 > 0 then ((octet_Reader_Num.f t115 1).bind fun bt116 => ((octet_Reader_Num.f bt116.2 2).bind fun bt119 => ((octet_Reader_Take.f bt119.2 bt119.1).bind fun bt121 => ((octet_Reader_Bad.f bt121.2).bind fun bt125 => (if bt125.1 = true then (some (([] : List (S40)), 2)) else (if x4_1.length < 4398046511104 then (tlv_Split.l0 k1 (x4_1 ++ [(⟨bt116.1, bt121.1⟩ : S40)]) bt125.2) else (none))))))) else (some (x4_1, 0))) = some (r1, r2) := H
      have A4 := Aside0.mk A40
      clear A40
      by_cases c5 : t114 > 0
      · rw [if_pos c5] at H
        have c5b0 : decide (0 < t114) = true := decide_eq_true c5
        clear c5
        replace H := Option.bind_eq_some_iff.mp H
        obtain ⟨⟨t116, t117⟩, A60, H⟩ := H
        replace H : ((octet_Reader_Num.f t117 2).bind fun bt119 => ((octet_Reader_Take.f bt119.2 bt119.1).bind fun bt121 => ((octet_Reader_Bad.f bt121.2).bind fun bt125 => (if bt125.1 = true then (some (([] : List (S40)), 2)) else (if x4_1.length < 4398046511104 then (tlv_Split.l0 k1 (x4_1 ++ [(⟨t116, bt121.1⟩ : S40)]) bt125.2) else (none)))))) = some (r1, r2) := H
        have A6 := Aside0.mk A60
        clear A60
        replace H := Option.bind_eq_some_iff.mp H
        obtain ⟨⟨t119, t120⟩, A70, H⟩ := H
        replace H : ((octet_Reader_Take.f t120 t119).bind fun bt121 => ((octet_Reader_Bad.f bt121.2).bind fun bt125 => (if bt125.1 = true then (some (([] : List (S40)), 2)) else (if x4_1.length < 4398046511104 then (tlv_Split.l0 k1 (x4_1 ++ [(⟨t116, bt121.1⟩ : S40)]) bt125.2) else (none))))) = some (r1, r2) := H
        have A7 := Aside0.mk A70
        clear A70
        replace H := Option.bind_eq_some_iff.mp H
        obtain ⟨⟨t121, t124⟩, A80, H⟩ := H
        replace H : ((octet_Reader_Bad.f t124).bind fun bt125 => (if bt125.1 = true then (some (([] : List (S40)), 2)) else (if x4_1.length < 4398046511104 then (tlv_Split.l0 k1 (x4_1 ++ [(⟨t116, t121⟩ : S40)]) bt125.2) else (none)))) = some (r1, r2) := H
        have A8 := Aside0.mk A80
        clear A80
        replace H := Option.bind_eq_some_iff.mp H
        obtain ⟨⟨t125, t126⟩, A90, H⟩ := H
        replace H : (if t125 = true then (some (([] : List (S40)), 2)) else (if x4_1.length < 4398046511104 then (tlv_Split.l0 k1 (x4_1 ++ [(⟨t116, t121⟩ : S40)]) t126) else (none))) = some (r1, r2) := H
        have A9 := Aside0.mk A90
        clear A90
        by_cases c10 : t125 = true
        · subst c10
          have H1 : (some (([] : List (S40)), 2)) = some (r1, r2) := by rw [if_pos rfl] at H; exact H
          clear H
          have H := H1
          clear H1
          simp only [Option.some.injEq, Prod.mk.injEq] at H
          obtain ⟨rfl, rfl⟩ := H
          go_wp2_with (first | ((with_reducible refine gate_callee (f := 32) rfl ?_); refine goesL_ (some 10) rfl rfl Try.func32 (by kernel_rfl) rfl #[.pointer (some ⟨g113, 0, none⟩)] rfl (by (try simp only [List.map_toArray, List.map_cons, List.map_nil]); first | done | rfl | (simp only [List.length_drop, List.length_take]; rfl)) ?_; (with_reducible refine (octet_Reader_Left.calls g113 x114000_1 t114 t115 w _ ?side1 ?side2 A4.out).mono ?_); (case side1 => repeat (first | (with_reducible first | exact HI113.out | apply IsS70.alloc | apply IsS70.drewN | apply IsS70.drew | apply IsS70.set_0) | exact HI113.out)); (case side2 => repeat (first | (with_reducible first | exact HB.out | apply below_alloc | apply pw_below_drewN | apply below_drew1 | refine below_set ?_ (IsS70.ge HI113.out)) | exact HB.out)); rintro e w11 ⟨rfl, hi, hb, hk⟩; refine ⟨_, rfl, ?_⟩; have n0_ := Aside0.mk (Kd.S_mono (Kd.S_keep (IsS70.apartS (show IsS70 w _ g113 x114000_1 from by repeat (first | (with_reducible first | exact HI113.out | apply IsS70.alloc | apply IsS70.drewN | apply IsS70.drew | apply IsS70.set_0) | exact HI113.out)) (by (with_reducible repeat (first | apply Kd.S_alloc | apply Kd.S_drewN | apply Kd.S_drew)); exact HO_4.out) (by decide)) hk (fun _ h => h.2)) (fun _ h => h.1)); have n1_ := Aside0.mk (hb); have n2_ := Aside0.mk (hi); clear HO_4; clear HB; clear HI113; have HO_4 := n0_; have HB := n1_; have HI113 := n2_; clear n0_ n1_ n2_; (try clear hb); (try clear hb2); (try clear hk); (try clear hi)) | ((with_reducible refine gate_callee (f := 19) rfl ?_); refine goesL_ (some 13) rfl rfl Try.func19 (by kernel_rfl) rfl #[.pointer (some ⟨g113, 0, none⟩), .int .i64 1] rfl (by (try simp only [List.map_toArray, List.map_cons, List.map_nil]); first | done | rfl | (simp only [List.length_drop, List.length_take]; rfl)) ?_; (with_reducible refine (octet_Reader_Num.calls g113 t115 1 t116 t117 w _ ?side1 ?side2 A6.out).mono ?_); (case side1 => repeat (first | (with_reducible first | exact HI113.out | apply IsS70.alloc | apply IsS70.drewN | apply IsS70.drew | apply IsS70.set_0) | exact HI113.out)); (case side2 => repeat (first | (with_reducible first | exact HB.out | apply below_alloc | apply pw_below_drewN | apply below_drew1 | refine below_set ?_ (IsS70.ge HI113.out)) | exact HB.out)); rintro e w12 ⟨rfl, hi, hb, hk⟩; refine ⟨_, rfl, ?_⟩; have n0_ := Aside0.mk (Kd.S_mono (Kd.S_keep (IsS70.apartS (show IsS70 w _ g113 t115 from by repeat (first | (with_reducible first | exact HI113.out | apply IsS70.alloc | apply IsS70.drewN | apply IsS70.drew | apply IsS70.set_0) | exact HI113.out)) (by (with_reducible repeat (first | apply Kd.S_alloc | apply Kd.S_drewN | apply Kd.S_drew)); exact HO_4.out) (by decide)) hk (fun _ h => h.2)) (fun _ h => h.1)); have n1_ := Aside0.mk (hb); have n2_ := Aside0.mk (hi); clear HO_4; clear HB; clear HI113; have HO_4 := n0_; have HB := n1_; have HI113 := n2_; clear n0_ n1_ n2_; (try clear hb); (try clear hb2); (try clear hk); (try clear hi)) | ((with_reducible refine gate_dst (N := 6) rfl ?_); refine box_event ?hg (N := 6) ?hd (cs := #[.int .i64 0, .slice none 0 0]) (t := 40) ?hr ?_; (case hd => rfl); (case hg => rfl); (case hr => first | (go_simp; done) | (go_simp; rfl)); intro gb118 hg w13 hbox hb; have n0_ := Aside0.mk (Kd.S_below (Kd.S_elderB (by (with_reducible repeat (first | apply Kd.S_alloc | apply Kd.S_drewN | apply Kd.S_drew)); exact HO_4.out) gb118 (Nat.le_of_eq hg.symm)) hb); have n1_ := Aside0.mk (IsS70.below (by repeat (first | (with_reducible first | exact HI113.out | apply IsS70.alloc | apply IsS70.drewN | apply IsS70.drew | apply IsS70.set_0) | exact HI113.out)) hb); have n2_ := Aside0.mk (below_step (by repeat (first | (with_reducible first | exact HB.out | apply below_alloc | apply pw_below_drewN | apply below_drew1 | refine below_set ?_ (IsS70.ge HI113.out)) | exact HB.out)) hb); have n3_ := Aside0.mk (hbox); have n4_ := Aside0.mk ((by rw [hg]; exact (below_size (by repeat (first | (with_reducible first | exact HB.out | apply below_alloc | apply pw_below_drewN | apply below_drew1 | refine below_set ?_ (IsS70.ge HI113.out)) | exact HB.out))) : w.heap.size ≤ gb118)); have n5_ := Aside0.mk ((by rw [hg]; exact (below_size (by repeat (first | (with_reducible first | exact HB.out | apply below_alloc | apply pw_below_drewN | apply below_drew1 | refine below_set ?_ (IsS70.ge HI113.out)) | exact HB.out))) : w.heap.size ≤ gb118)); have n6_ := Aside0.mk ((by rw [hg]; exact Nat.ne_of_lt (IsS70.lt (show IsS70 w _ g113 t117 from by repeat (first | (with_reducible first | exact HI113.out | apply IsS70.alloc | apply IsS70.drewN | apply IsS70.drew | apply IsS70.set_0) | exact HI113.out))) : g113 ≠ gb118)); have n7_ := Aside0.mk ((by rw [hg]; exact Nat.ne_of_gt (IsS70.lt (show IsS70 w _ g113 t117 from by repeat (first | (with_reducible first | exact HI113.out | apply IsS70.alloc | apply IsS70.drewN | apply IsS70.drew | apply IsS70.set_0) | exact HI113.out))) : gb118 ≠ g113)); clear HO_4; clear HI113; clear HB; have HO_4 := n0_; have HI113 := n1_; have HB := n2_; have BK118 := n3_; have GW118 := n4_; have GE118 := n5_; have NB113_118 := n6_; have NB118_113 := n7_; clear n0_ n1_ n2_ n3_ n4_ n5_ n6_ n7_; clear hb hbox hg; have hnb14 := NB118_113.out; have hnc14 := NB113_118.out; have hcz15_0 : w13.cell? ⟨gb118, 0, none⟩ = some (.int .i64 0) := (blk_cell BK118.out 0).trans rfl; have hcz15_1 : w13.cell? ⟨gb118, 1, none⟩ = some (.slice none 0 0) := (blk_cell BK118.out 1).trans rfl; have hfz15_0 := blk_frozen BK118.out 0; have hfz15_1 := blk_frozen BK118.out 1) | ((with_reducible refine gate_callee (f := 19) rfl ?_); refine goesL_ (some 17) rfl rfl Try.func19 (by kernel_rfl) rfl #[.pointer (some ⟨g113, 0, none⟩), .int .i64 2] rfl (by (try simp only [List.map_toArray, List.map_cons, List.map_nil]); first | done | rfl | (simp only [List.length_drop, List.length_take]; rfl)) ?_; (with_reducible refine (octet_Reader_Num.calls g113 t117 2 t119 t120 w _ ?side1 ?side2 A7.out).mono ?_); (case side1 => repeat (first | (with_reducible first | exact HI113.out | apply IsS70.alloc | apply IsS70.drewN | apply IsS70.drew | apply IsS70.set_0 | refine IsS70.far ?_ NB113_118.out _) | exact HI113.out)); (case side2 => repeat (first | (with_reducible first | exact HB.out | apply below_alloc | apply pw_below_drewN | apply below_drew1 | refine below_set ?_ (IsS70.ge HI113.out) | refine below_set ?_ GE118.out) | exact HB.out)); rintro e w16 ⟨rfl, hi, hb, hk⟩; refine ⟨_, rfl, ?_⟩; have n0_ := Aside0.mk (Kd.S_mono (Kd.S_keep (IsS70.apartS (show IsS70 w _ g113 t117 from by repeat (first | (with_reducible first | exact HI113.out | apply IsS70.alloc | apply IsS70.drewN | apply IsS70.drew | apply IsS70.set_0 | refine IsS70.far ?_ NB113_118.out _) | exact HI113.out)) (by (with_reducible repeat (first | apply Kd.S_alloc | apply Kd.S_drewN | apply Kd.S_drew)); exact (Kd.S_mono (Kd.S_far (p := ⟨gb118, 1, none⟩) (Kd.S_far (p := ⟨gb118, 0, none⟩) (Kd.S_mono HO_4.out (fun k_ hk => (⟨hk, hk.2⟩ : _ ∧ k_ ≠ gb118))) (fun _ hk => hk.2) (.int .i64 t116)) (fun _ hk => hk.2) (.slice none 0 0)) (fun _ h_ => h_.1))) (by decide)) hk (fun _ h => h.2)) (fun _ h => h.1)); have n1_ := Aside0.mk (KeepBut.blk hk (g' := gb118) (o := .cells #[.int .i64 t116, .slice none 0 0] 40 (0, 0)) (by (with_reducible repeat (first | refine blk_drewN ?_ _ | refine blk_drew ?_ | refine blk_alloc ?_ _)); refine blk_put (cs := #[.int .i64 t116, .slice none 0 0]) ?_ 1 _ rfl; (with_reducible repeat (first | refine blk_drewN ?_ _ | refine blk_drew ?_ | refine blk_alloc ?_ _)); refine blk_put (cs := #[.int .i64 0, .slice none 0 0]) ?_ 0 _ rfl; (with_reducible repeat (first | refine blk_drewN ?_ _ | refine blk_drew ?_ | refine blk_alloc ?_ _)); exact BK118.out) NB118_113.out (by simp)); have n2_ := Aside0.mk (hb); have n3_ := Aside0.mk (hi); clear HO_4; clear BK118; clear HB; clear HI113; have HO_4 := n0_; have BK118 := n1_; have HB := n2_; have HI113 := n3_; clear n0_ n1_ n2_ n3_; (try clear hb); (try clear hb2); (try clear hk); (try clear hi)) | ((with_reducible refine gate_callee (f := 18) rfl ?_); refine goesL_ (some 18) rfl rfl Try.func18 (by kernel_rfl) rfl #[.pointer (some ⟨g113, 0, none⟩), .int .i64 t119] rfl (by (try simp only [List.map_toArray, List.map_cons, List.map_nil]); first | done | rfl | (simp only [List.length_drop, List.length_take]; rfl)) ?_; (with_reducible refine (octet_Reader_Take.calls g113 t120 t119 t121 t124 w _ ?side1 ?side2 A8.out).mono ?_); (case side1 => repeat (first | (with_reducible first | exact HI113.out | apply IsS70.alloc | apply IsS70.drewN | apply IsS70.drew | apply IsS70.set_0 | refine IsS70.far ?_ NB113_118.out _) | exact HI113.out)); (case side2 => repeat (first | (with_reducible first | exact HB.out | apply below_alloc | apply pw_below_drewN | apply below_drew1 | refine below_set ?_ (IsS70.ge HI113.out) | refine below_set ?_ GE118.out) | exact HB.out)); rintro e w17 ⟨v122, rfl, ho0, hi, hb, hk⟩; refine ⟨_, rfl, ?_⟩; have n0_ := Aside0.mk (Kd.S_mono (Kd.S_told (Kd.S_oldK (IsS70.apartS (show IsS70 w _ g113 t120 from by repeat (first | (with_reducible first | exact HI113.out | apply IsS70.alloc | apply IsS70.drewN | apply IsS70.drew | apply IsS70.set_0 | refine IsS70.far ?_ NB113_118.out _) | exact HI113.out)) (by (with_reducible repeat (first | apply Kd.S_alloc | apply Kd.S_drewN | apply Kd.S_drew)); exact HO_4.out) (by decide)) hk) (Kd.R_base ho0)) (fun _ h_ => h_.1)); have n1_ := Aside0.mk (KeepBut.blk hk (g' := gb118) (o := .cells #[.int .i64 t116, .slice none 0 0] 40 (0, 0)) (by (with_reducible repeat (first | refine blk_drewN ?_ _ | refine blk_drew ?_ | refine blk_alloc ?_ _)); exact BK118.out) NB118_113.out (by simp)); have n2_ := Aside0.mk (Kd.R_lower ho0 (below_size (by repeat (first | (with_reducible first | exact HB.out | apply below_alloc | apply pw_below_drewN | apply below_drew1 | refine below_set ?_ (IsS70.ge HI113.out) | refine below_set ?_ GE118.out) | exact HB.out)))); have n3_ := Aside0.mk (hb); have n4_ := Aside0.mk (hi); clear HO_4; clear BK118; clear HB; clear HI113; have HO_4 := n0_; have BK118 := n1_; have HO123 := n2_; have HB := n3_; have HI113 := n4_; clear n0_ n1_ n2_ n3_ n4_; (try clear hb); (try clear hb2); (try clear hk); (try clear hi); (try clear ho0); obtain ⟨Ao18, co18, eo18⟩ := Kd.R_slice HO123.out; subst eo18; have hcz19_0 : w17.cell? ⟨gb118, 0, none⟩ = some (.int .i64 t116) := (blk_cell BK118.out 0).trans rfl; have hcz19_1 : w17.cell? ⟨gb118, 1, none⟩ = some (.slice none 0 0) := (blk_cell BK118.out 1).trans rfl; have hfz19_0 := blk_frozen BK118.out 0; have hfz19_1 := blk_frozen BK118.out 1) | ((with_reducible refine gate_callee (f := 47) rfl ?_); refine goesL_ (some 21) rfl rfl Try.func47 (by kernel_rfl) rfl #[.pointer (some ⟨g113, 0, none⟩)] rfl (by (try simp only [List.map_toArray, List.map_cons, List.map_nil]); first | done | rfl | (simp only [List.length_drop, List.length_take]; rfl)) ?_; (with_reducible refine (octet_Reader_Bad.calls g113 t124 true t126 w _ ?side1 ?side2 A9.out).mono ?_); (case side1 => repeat (first | (with_reducible first | exact HI113.out | apply IsS70.alloc | apply IsS70.drewN | apply IsS70.drew | apply IsS70.set_0 | refine IsS70.far ?_ NB113_118.out _) | exact HI113.out)); (case side2 => repeat (first | (with_reducible first | exact HB.out | apply below_alloc | apply pw_below_drewN | apply below_drew1 | refine below_set ?_ (IsS70.ge HI113.out) | refine below_set ?_ GE118.out) | exact HB.out)); rintro e w20 ⟨rfl, hi, hb, hk⟩; refine ⟨_, rfl, ?_⟩; have n0_ := Aside0.mk (Kd.S_mono (Kd.S_keep (IsS70.apartS (show IsS70 w _ g113 t124 from by repeat (first | (with_reducible first | exact HI113.out | apply IsS70.alloc | apply IsS70.drewN | apply IsS70.drew | apply IsS70.set_0 | refine IsS70.far ?_ NB113_118.out _) | exact HI113.out)) (by (with_reducible repeat (first | apply Kd.S_alloc | apply Kd.S_drewN | apply Kd.S_drew)); exact (Kd.S_mono (Kd.S_far (p := ⟨gb118, 1, none⟩) (Kd.S_mono HO_4.out (fun k_ hk => (⟨hk, hk.1.2⟩ : _ ∧ k_ ≠ gb118))) (fun _ hk => hk.2) (.slice Ao18 t121.length co18)) (fun _ h_ => h_.1))) (by decide)) hk (fun _ h => h.2)) (fun _ h => h.1)); have n1_ := Aside0.mk (KeepBut.blk hk (g' := gb118) (o := .cells #[.int .i64 t116, .slice Ao18 t121.length co18] 40 (0, 0)) (by (with_reducible repeat (first | refine blk_drewN ?_ _ | refine blk_drew ?_ | refine blk_alloc ?_ _)); refine blk_put (cs := #[.int .i64 t116, .slice none 0 0]) ?_ 1 _ rfl; (with_reducible repeat (first | refine blk_drewN ?_ _ | refine blk_drew ?_ | refine blk_alloc ?_ _)); exact BK118.out) NB118_113.out (by simp)); have n2_ := Aside0.mk (Kd.R_mono (Kd.R_keep (IsS70.apart (show IsS70 w _ g113 t124 from by repeat (first | (with_reducible first | exact HI113.out | apply IsS70.alloc | apply IsS70.drewN | apply IsS70.drew | apply IsS70.set_0 | refine IsS70.far ?_ NB113_118.out _) | exact HI113.out)) (by (with_reducible repeat (first | apply Kd.R_alloc | apply Kd.R_drewN | apply Kd.R_drew)); exact (Kd.R_mono (Kd.R_far (p := ⟨gb118, 1, none⟩) (Kd.R_types HO123.out BK118.out (by decide)) (fun _ hk => hk.2) (.slice Ao18 t121.length co18)) (fun _ h_ => h_.1))) (by decide)) hk (fun _ h => h.2)) (fun _ h => h.1)); have n3_ := Aside0.mk (hb); have n4_ := Aside0.mk (hi); clear HO_4; clear BK118; clear HO123; clear HB; clear HI113; have HO_4 := n0_; have BK118 := n1_; have HO123 := n2_; have HB := n3_; have HI113 := n4_; clear n0_ n1_ n2_ n3_ n4_; (try clear hb); (try clear hb2); (try clear hk); (try clear hi)))
          go_ret2
          exact ⟨_, by first | rfl | (simp [errW_none, errW_some] <;> rfl) | (simp [*, errW_none, errW_some] <;> rfl), by first | exact Kd.S_nil _ _ _ _ _ | exact Kd.N_nil _ _ _ _ _ | exact Kd.V_nil _ _ _ _ _ | exact Kd.Q_nil _ _ _ _ _ | exact Kd.R_nil _ _ _ _ _, by repeat (first | (with_reducible first | exact HB.out | apply below_alloc | apply pw_below_drewN | apply below_drew1 | refine below_set ?_ (IsS70.ge HI113.out) | refine below_set ?_ GE118.out) | exact HB.out)⟩
        · replace c10 := Bool.eq_false_iff.mpr c10
          subst c10
          have H1 : (if x4_1.length < 4398046511104 then (tlv_Split.l0 k1 (x4_1 ++ [(⟨t116, t121⟩ : S40)]) t126) else (none)) = some (r1, r2) := by rw [if_neg (show ¬ (false = true) by decide)] at H; exact H
          clear H
          have H := H1
          clear H1
          by_cases c21 : x4_1.length < 4398046511104
          · rw [if_pos c21] at H
            have LMc21 := Aside0.mk c21
            clear c21
            obtain ⟨y127, hy127⟩ : ∃ y_ : List (S40), y_ = (x4_1 ++ [(⟨t116, t121⟩ : S40)]) := ⟨_, rfl⟩
            replace H : (tlv_Split.l0 k1 y127 t126) = some (r1, r2) := by first | (rw [hy127]; with_reducible exact H) | (have H2_ := (Option.bind_some _ _).symm.trans H; rw [hy127]; with_reducible exact H2_) | (have H2_ := (Option.bind_some _ _).symm.trans H; with_reducible exact H2_) | with_reducible exact H | (rw [hy127]; exact H) | exact H
            have Ny127 := Aside0.mk hy127
            clear hy127
            have H' := Aside0.mk H
            clear H
            go_wp2_with (first | ((with_reducible refine gate_callee (f := 32) rfl ?_); refine goesL_ (some 10) rfl rfl Try.func32 (by kernel_rfl) rfl #[.pointer (some ⟨g113, 0, none⟩)] rfl (by (try simp only [List.map_toArray, List.map_cons, List.map_nil]); first | done | rfl | (simp only [List.length_drop, List.length_take]; rfl)) ?_; (with_reducible refine (octet_Reader_Left.calls g113 x114000_1 t114 t115 w _ ?side1 ?side2 A4.out).mono ?_); (case side1 => repeat (first | (with_reducible first | exact HI113.out | apply IsS70.alloc | apply IsS70.drewN | apply IsS70.drew | apply IsS70.set_0) | exact HI113.out)); (case side2 => repeat (first | (with_reducible first | exact HB.out | apply below_alloc | apply pw_below_drewN | apply below_drew1 | refine below_set ?_ (IsS70.ge HI113.out)) | exact HB.out)); rintro e w22 ⟨rfl, hi, hb, hk⟩; refine ⟨_, rfl, ?_⟩; have n0_ := Aside0.mk (Kd.S_mono (Kd.S_keep (IsS70.apartS (show IsS70 w _ g113 x114000_1 from by repeat (first | (with_reducible first | exact HI113.out | apply IsS70.alloc | apply IsS70.drewN | apply IsS70.drew | apply IsS70.set_0) | exact HI113.out)) (by (with_reducible repeat (first | apply Kd.S_alloc | apply Kd.S_drewN | apply Kd.S_drew)); exact HO_4.out) (by decide)) hk (fun _ h => h.2)) (fun _ h => h.1)); have n1_ := Aside0.mk (hb); have n2_ := Aside0.mk (hi); clear HO_4; clear HB; clear HI113; have HO_4 := n0_; have HB := n1_; have HI113 := n2_; clear n0_ n1_ n2_; (try clear hb); (try clear hb2); (try clear hk); (try clear hi)) | ((with_reducible refine gate_callee (f := 19) rfl ?_); refine goesL_ (some 13) rfl rfl Try.func19 (by kernel_rfl) rfl #[.pointer (some ⟨g113, 0, none⟩), .int .i64 1] rfl (by (try simp only [List.map_toArray, List.map_cons, List.map_nil]); first | done | rfl | (simp only [List.length_drop, List.length_take]; rfl)) ?_; (with_reducible refine (octet_Reader_Num.calls g113 t115 1 t116 t117 w _ ?side1 ?side2 A6.out).mono ?_); (case side1 => repeat (first | (with_reducible first | exact HI113.out | apply IsS70.alloc | apply IsS70.drewN | apply IsS70.drew | apply IsS70.set_0) | exact HI113.out)); (case side2 => repeat (first | (with_reducible first | exact HB.out | apply below_alloc | apply pw_below_drewN | apply below_drew1 | refine below_set ?_ (IsS70.ge HI113.out)) | exact HB.out)); rintro e w23 ⟨rfl, hi, hb, hk⟩; refine ⟨_, rfl, ?_⟩; have n0_ := Aside0.mk (Kd.S_mono (Kd.S_keep (IsS70.apartS (show IsS70 w _ g113 t115 from by repeat (first | (with_reducible first | exact HI113.out | apply IsS70.alloc | apply IsS70.drewN | apply IsS70.drew | apply IsS70.set_0) | exact HI113.out)) (by (with_reducible repeat (first | apply Kd.S_alloc | apply Kd.S_drewN | apply Kd.S_drew)); exact HO_4.out) (by decide)) hk (fun _ h => h.2)) (fun _ h => h.1)); have n1_ := Aside0.mk (hb); have n2_ := Aside0.mk (hi); clear HO_4; clear HB; clear HI113; have HO_4 := n0_; have HB := n1_; have HI113 := n2_; clear n0_ n1_ n2_; (try clear hb); (try clear hb2); (try clear hk); (try clear hi)) | ((with_reducible refine gate_dst (N := 6) rfl ?_); refine box_event ?hg (N := 6) ?hd (cs := #[.int .i64 0, .slice none 0 0]) (t := 40) ?hr ?_; (case hd => rfl); (case hg => rfl); (case hr => first | (go_simp; done) | (go_simp; rfl)); intro gb118 hg w24 hbox hb; have n0_ := Aside0.mk (Kd.S_below (Kd.S_elderB (by (with_reducible repeat (first | apply Kd.S_alloc | apply Kd.S_drewN | apply Kd.S_drew)); exact HO_4.out) gb118 (Nat.le_of_eq hg.symm)) hb); have n1_ := Aside0.mk (IsS70.below (by repeat (first | (with_reducible first | exact HI113.out | apply IsS70.alloc | apply IsS70.drewN | apply IsS70.drew | apply IsS70.set_0) | exact HI113.out)) hb); have n2_ := Aside0.mk (below_step (by repeat (first | (with_reducible first | exact HB.out | apply below_alloc | apply pw_below_drewN | apply below_drew1 | refine below_set ?_ (IsS70.ge HI113.out)) | exact HB.out)) hb); have n3_ := Aside0.mk (hbox); have n4_ := Aside0.mk ((by rw [hg]; exact (below_size (by repeat (first | (with_reducible first | exact HB.out | apply below_alloc | apply pw_below_drewN | apply below_drew1 | refine below_set ?_ (IsS70.ge HI113.out)) | exact HB.out))) : w.heap.size ≤ gb118)); have n5_ := Aside0.mk ((by rw [hg]; exact (below_size (by repeat (first | (with_reducible first | exact HB.out | apply below_alloc | apply pw_below_drewN | apply below_drew1 | refine below_set ?_ (IsS70.ge HI113.out)) | exact HB.out))) : w.heap.size ≤ gb118)); have n6_ := Aside0.mk ((by rw [hg]; exact Nat.ne_of_lt (IsS70.lt (show IsS70 w _ g113 t117 from by repeat (first | (with_reducible first | exact HI113.out | apply IsS70.alloc | apply IsS70.drewN | apply IsS70.drew | apply IsS70.set_0) | exact HI113.out))) : g113 ≠ gb118)); have n7_ := Aside0.mk ((by rw [hg]; exact Nat.ne_of_gt (IsS70.lt (show IsS70 w _ g113 t117 from by repeat (first | (with_reducible first | exact HI113.out | apply IsS70.alloc | apply IsS70.drewN | apply IsS70.drew | apply IsS70.set_0) | exact HI113.out))) : gb118 ≠ g113)); clear HO_4; clear HI113; clear HB; have HO_4 := n0_; have HI113 := n1_; have HB := n2_; have BK118 := n3_; have GW118 := n4_; have GE118 := n5_; have NB113_118 := n6_; have NB118_113 := n7_; clear n0_ n1_ n2_ n3_ n4_ n5_ n6_ n7_; clear hb hbox hg; have hnb25 := NB118_113.out; have hnc25 := NB113_118.out; have hcz26_0 : w24.cell? ⟨gb118, 0, none⟩ = some (.int .i64 0) := (blk_cell BK118.out 0).trans rfl; have hcz26_1 : w24.cell? ⟨gb118, 1, none⟩ = some (.slice none 0 0) := (blk_cell BK118.out 1).trans rfl; have hfz26_0 := blk_frozen BK118.out 0; have hfz26_1 := blk_frozen BK118.out 1) | ((with_reducible refine gate_callee (f := 19) rfl ?_); refine goesL_ (some 17) rfl rfl Try.func19 (by kernel_rfl) rfl #[.pointer (some ⟨g113, 0, none⟩), .int .i64 2] rfl (by (try simp only [List.map_toArray, List.map_cons, List.map_nil]); first | done | rfl | (simp only [List.length_drop, List.length_take]; rfl)) ?_; (with_reducible refine (octet_Reader_Num.calls g113 t117 2 t119 t120 w _ ?side1 ?side2 A7.out).mono ?_); (case side1 => repeat (first | (with_reducible first | exact HI113.out | apply IsS70.alloc | apply IsS70.drewN | apply IsS70.drew | apply IsS70.set_0 | refine IsS70.far ?_ NB113_118.out _) | exact HI113.out)); (case side2 => repeat (first | (with_reducible first | exact HB.out | apply below_alloc | apply pw_below_drewN | apply below_drew1 | refine below_set ?_ (IsS70.ge HI113.out) | refine below_set ?_ GE118.out) | exact HB.out)); rintro e w27 ⟨rfl, hi, hb, hk⟩; refine ⟨_, rfl, ?_⟩; have n0_ := Aside0.mk (Kd.S_mono (Kd.S_keep (IsS70.apartS (show IsS70 w _ g113 t117 from by repeat (first | (with_reducible first | exact HI113.out | apply IsS70.alloc | apply IsS70.drewN | apply IsS70.drew | apply IsS70.set_0 | refine IsS70.far ?_ NB113_118.out _) | exact HI113.out)) (by (with_reducible repeat (first | apply Kd.S_alloc | apply Kd.S_drewN | apply Kd.S_drew)); exact (Kd.S_mono (Kd.S_far (p := ⟨gb118, 1, none⟩) (Kd.S_far (p := ⟨gb118, 0, none⟩) (Kd.S_mono HO_4.out (fun k_ hk => (⟨hk, hk.2⟩ : _ ∧ k_ ≠ gb118))) (fun _ hk => hk.2) (.int .i64 t116)) (fun _ hk => hk.2) (.slice none 0 0)) (fun _ h_ => h_.1))) (by decide)) hk (fun _ h => h.2)) (fun _ h => h.1)); have n1_ := Aside0.mk (KeepBut.blk hk (g' := gb118) (o := .cells #[.int .i64 t116, .slice none 0 0] 40 (0, 0)) (by (with_reducible repeat (first | refine blk_drewN ?_ _ | refine blk_drew ?_ | refine blk_alloc ?_ _)); refine blk_put (cs := #[.int .i64 t116, .slice none 0 0]) ?_ 1 _ rfl; (with_reducible repeat (first | refine blk_drewN ?_ _ | refine blk_drew ?_ | refine blk_alloc ?_ _)); refine blk_put (cs := #[.int .i64 0, .slice none 0 0]) ?_ 0 _ rfl; (with_reducible repeat (first | refine blk_drewN ?_ _ | refine blk_drew ?_ | refine blk_alloc ?_ _)); exact BK118.out) NB118_113.out (by simp)); have n2_ := Aside0.mk (hb); have n3_ := Aside0.mk (hi); clear HO_4; clear BK118; clear HB; clear HI113; have HO_4 := n0_; have BK118 := n1_; have HB := n2_; have HI113 := n3_; clear n0_ n1_ n2_ n3_; (try clear hb); (try clear hb2); (try clear hk); (try clear hi)) | ((with_reducible refine gate_callee (f := 18) rfl ?_); refine goesL_ (some 18) rfl rfl Try.func18 (by kernel_rfl) rfl #[.pointer (some ⟨g113, 0, none⟩), .int .i64 t119] rfl (by (try simp only [List.map_toArray, List.map_cons, List.map_nil]); first | done | rfl | (simp only [List.length_drop, List.length_take]; rfl)) ?_; (with_reducible refine (octet_Reader_Take.calls g113 t120 t119 t121 t124 w _ ?side1 ?side2 A8.out).mono ?_); (case side1 => repeat (first | (with_reducible first | exact HI113.out | apply IsS70.alloc | apply IsS70.drewN | apply IsS70.drew | apply IsS70.set_0 | refine IsS70.far ?_ NB113_118.out _) | exact HI113.out)); (case side2 => repeat (first | (with_reducible first | exact HB.out | apply below_alloc | apply pw_below_drewN | apply below_drew1 | refine below_set ?_ (IsS70.ge HI113.out) | refine below_set ?_ GE118.out) | exact HB.out)); rintro e w28 ⟨v122, rfl, ho0, hi, hb, hk⟩; refine ⟨_, rfl, ?_⟩; have n0_ := Aside0.mk (Kd.S_mono (Kd.S_told (Kd.S_oldK (IsS70.apartS (show IsS70 w _ g113 t120 from by repeat (first | (with_reducible first | exact HI113.out | apply IsS70.alloc | apply IsS70.drewN | apply IsS70.drew | apply IsS70.set_0 | refine IsS70.far ?_ NB113_118.out _) | exact HI113.out)) (by (with_reducible repeat (first | apply Kd.S_alloc | apply Kd.S_drewN | apply Kd.S_drew)); exact HO_4.out) (by decide)) hk) (Kd.R_base ho0)) (fun _ h_ => h_.1)); have n1_ := Aside0.mk (KeepBut.blk hk (g' := gb118) (o := .cells #[.int .i64 t116, .slice none 0 0] 40 (0, 0)) (by (with_reducible repeat (first | refine blk_drewN ?_ _ | refine blk_drew ?_ | refine blk_alloc ?_ _)); exact BK118.out) NB118_113.out (by simp)); have n2_ := Aside0.mk (Kd.R_lower ho0 (below_size (by repeat (first | (with_reducible first | exact HB.out | apply below_alloc | apply pw_below_drewN | apply below_drew1 | refine below_set ?_ (IsS70.ge HI113.out) | refine below_set ?_ GE118.out) | exact HB.out)))); have n3_ := Aside0.mk (hb); have n4_ := Aside0.mk (hi); clear HO_4; clear BK118; clear HB; clear HI113; have HO_4 := n0_; have BK118 := n1_; have HO123 := n2_; have HB := n3_; have HI113 := n4_; clear n0_ n1_ n2_ n3_ n4_; (try clear hb); (try clear hb2); (try clear hk); (try clear hi); (try clear ho0); obtain ⟨Ao29, co29, eo29⟩ := Kd.R_slice HO123.out; subst eo29; have hcz30_0 : w28.cell? ⟨gb118, 0, none⟩ = some (.int .i64 t116) := (blk_cell BK118.out 0).trans rfl; have hcz30_1 : w28.cell? ⟨gb118, 1, none⟩ = some (.slice none 0 0) := (blk_cell BK118.out 1).trans rfl; have hfz30_0 := blk_frozen BK118.out 0; have hfz30_1 := blk_frozen BK118.out 1) | ((with_reducible refine gate_callee (f := 47) rfl ?_); refine goesL_ (some 21) rfl rfl Try.func47 (by kernel_rfl) rfl #[.pointer (some ⟨g113, 0, none⟩)] rfl (by (try simp only [List.map_toArray, List.map_cons, List.map_nil]); first | done | rfl | (simp only [List.length_drop, List.length_take]; rfl)) ?_; (with_reducible refine (octet_Reader_Bad.calls g113 t124 false t126 w _ ?side1 ?side2 A9.out).mono ?_); (case side1 => repeat (first | (with_reducible first | exact HI113.out | apply IsS70.alloc | apply IsS70.drewN | apply IsS70.drew | apply IsS70.set_0 | refine IsS70.far ?_ NB113_118.out _) | exact HI113.out)); (case side2 => repeat (first | (with_reducible first | exact HB.out | apply below_alloc | apply pw_below_drewN | apply below_drew1 | refine below_set ?_ (IsS70.ge HI113.out) | refine below_set ?_ GE118.out) | exact HB.out)); rintro e w31 ⟨rfl, hi, hb, hk⟩; refine ⟨_, rfl, ?_⟩; have n0_ := Aside0.mk (Kd.S_mono (Kd.S_keep (IsS70.apartS (show IsS70 w _ g113 t124 from by repeat (first | (with_reducible first | exact HI113.out | apply IsS70.alloc | apply IsS70.drewN | apply IsS70.drew | apply IsS70.set_0 | refine IsS70.far ?_ NB113_118.out _) | exact HI113.out)) (by (with_reducible repeat (first | apply Kd.S_alloc | apply Kd.S_drewN | apply Kd.S_drew)); exact (Kd.S_mono (Kd.S_far (p := ⟨gb118, 1, none⟩) (Kd.S_mono HO_4.out (fun k_ hk => (⟨hk, hk.1.2⟩ : _ ∧ k_ ≠ gb118))) (fun _ hk => hk.2) (.slice Ao29 t121.length co29)) (fun _ h_ => h_.1))) (by decide)) hk (fun _ h => h.2)) (fun _ h => h.1)); have n1_ := Aside0.mk (KeepBut.blk hk (g' := gb118) (o := .cells #[.int .i64 t116, .slice Ao29 t121.length co29] 40 (0, 0)) (by (with_reducible repeat (first | refine blk_drewN ?_ _ | refine blk_drew ?_ | refine blk_alloc ?_ _)); refine blk_put (cs := #[.int .i64 t116, .slice none 0 0]) ?_ 1 _ rfl; (with_reducible repeat (first | refine blk_drewN ?_ _ | refine blk_drew ?_ | refine blk_alloc ?_ _)); exact BK118.out) NB118_113.out (by simp)); have n2_ := Aside0.mk (Kd.R_mono (Kd.R_keep (IsS70.apart (show IsS70 w _ g113 t124 from by repeat (first | (with_reducible first | exact HI113.out | apply IsS70.alloc | apply IsS70.drewN | apply IsS70.drew | apply IsS70.set_0 | refine IsS70.far ?_ NB113_118.out _) | exact HI113.out)) (by (with_reducible repeat (first | apply Kd.R_alloc | apply Kd.R_drewN | apply Kd.R_drew)); exact (Kd.R_mono (Kd.R_far (p := ⟨gb118, 1, none⟩) (Kd.R_types HO123.out BK118.out (by decide)) (fun _ hk => hk.2) (.slice Ao29 t121.length co29)) (fun _ h_ => h_.1))) (by decide)) hk (fun _ h => h.2)) (fun _ h => h.1)); have n3_ := Aside0.mk (hb); have n4_ := Aside0.mk (hi); clear HO_4; clear BK118; clear HO123; clear HB; clear HI113; have HO_4 := n0_; have BK118 := n1_; have HO123 := n2_; have HB := n3_; have HI113 := n4_; clear n0_ n1_ n2_ n3_ n4_; (try clear hb); (try clear hb2); (try clear hk); (try clear hi); have hcz32_0 : w31.cell? ⟨gb118, 0, none⟩ = some (.int .i64 t116) := (blk_cell BK118.out 0).trans rfl; have hcz32_1 : w31.cell? ⟨gb118, 1, none⟩ = some (.slice Ao29 t121.length co29) := (blk_cell BK118.out 1).trans rfl; have hfz32_0 := blk_frozen BK118.out 0; have hfz32_1 := blk_frozen BK118.out 1) | ((with_reducible refine gate_builtin (b := .append) (xs := #[.tmp 22, .tmp 24]) rfl ?_); at_builtin; refine Kd.S_append k40 (w0 := w) w.heap.size rfl (.tmp 22) (.tmp 24) 36 40 (.agg #[(.int .i64 0), (.slice none 0 0)]) 32 rfl Try.underlying36 info40 rfl (by decide) (by omega) u4 x4_1 (⟨t116, t121⟩ : S40) [.int .i64 t116, .slice Ao29 t121.length co29] (fun k_ => k_ ≠ gb118) (fun k_ => some k_ = (.slice Ao29 t121.length co29 : Value).ownBlock) rfl rfl ?aP (fun k_ hk_ => ((Kd.R_mono (ok' := fun k_ => ((fun k_ => k_ ≠ gb118)) k_ ∧ some k_ ≠ (u4 : Value).ownBlock) (Kd.R_types (Kd.R_apart' (HO123.out) (Kd.S_typed HO_4.out) (by decide)) BK118.out (by decide)) (fun k_ hk => ⟨hk.2, hk.1.2⟩))).1 k_ hk_.symm) ?aF ?aO ?aB ?aS ?aL ?_; (case aP => exact k40_mkM _ _ _ (⟨t116, t121⟩ : S40) (Kd.R_mono (Kd.R_tight rfl (Kd.R_mono (ok' := fun k_ => ((fun k_ => k_ ≠ gb118)) k_ ∧ some k_ ≠ (u4 : Value).ownBlock) (Kd.R_types (Kd.R_apart' (HO123.out) (Kd.S_typed HO_4.out) (by decide)) BK118.out (by decide)) (fun k_ hk => ⟨hk.2, hk.1.2⟩))) (fun _ h_ => h_))); (case aB => exact (by repeat (first | (with_reducible first | exact HB.out | apply below_alloc | apply pw_below_drewN | apply below_drew1 | refine below_set ?_ (IsS70.ge HI113.out) | refine below_set ?_ GE118.out) | exact HB.out))); (case aF => exact (fun k_ hk => Kd.freshB (g := gb118) (o := .cells #[.int .i64 t116, .slice Ao29 t121.length co29] 40 (0, 0)) (by (with_reducible repeat (first | refine blk_drewN ?_ _ | refine blk_drew ?_ | refine blk_alloc ?_ _)); exact BK118.out) k_ hk)); (case aO => exact (by (with_reducible repeat (first | apply Kd.S_alloc | apply Kd.S_drewN | apply Kd.S_drew)); exact Kd.S_mono HO_4.out (fun k_ hk => ⟨hk.1.2, fun e_ => hk.2 e_⟩))); (case aS => exact (below_size (by repeat (first | (with_reducible first | exact HB.out | apply below_alloc | apply pw_below_drewN | apply below_drew1 | refine below_set ?_ (IsS70.ge HI113.out) | refine below_set ?_ GE118.out) | exact HB.out)))); (case aL => have := LMc21.out; omega); intro v128 w33 ho hb hg hat; rw [← Ny127.out] at ho; have n0_ := Aside0.mk (IsS70.grown (by repeat (first | (with_reducible first | exact HI113.out | apply IsS70.alloc | apply IsS70.drewN | apply IsS70.drew | apply IsS70.set_0 | refine IsS70.far ?_ NB113_118.out _) | exact HI113.out)) hg (IsS70.own_neS HI113.out HO_4.out (by decide))); have n1_ := Aside0.mk (blk_grown (g := gb118) (o := .cells #[.int .i64 t116, .slice Ao29 t121.length co29] 40 (0, 0)) (by (with_reducible repeat (first | refine blk_drewN ?_ _ | refine blk_drew ?_ | refine blk_alloc ?_ _)); exact BK118.out) hg (Kd.S_away HO_4.out (fun _ hk => hk.1.2))); have n2_ := Aside0.mk (hb); have n3_ := Aside0.mk (ho); clear HI113; clear BK118; clear HB; clear HO_4; clear HO123; have HI113 := n0_; have BK118 := n1_; have HB := n2_; have HO129 := n3_; clear n0_ n1_ n2_ n3_; clear ho hb hg hat))
            go_roundg k1
            case measure => have := HK1.out; omega
            case rel => exact ⟨(y127), (t126), H', ⟨by have := HK1.out; omega⟩, ⟨by (with_reducible repeat (first | apply Kd.S_alloc | apply Kd.S_drewN | apply Kd.S_drew)); exact Kd.S_mono HO129.out (fun _ hk => trivial)⟩, ⟨by repeat (first | (with_reducible first | exact HI113.out | apply IsS70.alloc | apply IsS70.drewN | apply IsS70.drew | apply IsS70.set_0 | refine IsS70.far ?_ NB113_118.out _) | exact HI113.out)⟩, ⟨by repeat (first | (with_reducible first | exact HB.out | apply below_alloc | apply pw_below_drewN | apply below_drew1 | refine below_set ?_ (IsS70.ge HI113.out) | refine below_set ?_ GE118.out) | exact HB.out)⟩⟩
          · rw [if_neg c21] at H
            exact absurd H (by simp)
      · rw [if_neg c5] at H
        have c5b0 : decide (0 < t114) = false := decide_eq_false c5
        clear c5
        simp only [Option.some.injEq, Prod.mk.injEq] at H
        obtain ⟨rfl, rfl⟩ := H
        go_wp2_with (first | ((with_reducible refine gate_callee (f := 32) rfl ?_); refine goesL_ (some 10) rfl rfl Try.func32 (by kernel_rfl) rfl #[.pointer (some ⟨g113, 0, none⟩)] rfl (by (try simp only [List.map_toArray, List.map_cons, List.map_nil]); first | done | rfl | (simp only [List.length_drop, List.length_take]; rfl)) ?_; (with_reducible refine (octet_Reader_Left.calls g113 x114000_1 t114 t115 w _ ?side1 ?side2 A4.out).mono ?_); (case side1 => repeat (first | (with_reducible first | exact HI113.out | apply IsS70.alloc | apply IsS70.drewN | apply IsS70.drew | apply IsS70.set_0) | exact HI113.out)); (case side2 => repeat (first | (with_reducible first | exact HB.out | apply below_alloc | apply pw_below_drewN | apply below_drew1 | refine below_set ?_ (IsS70.ge HI113.out)) | exact HB.out)); rintro e w34 ⟨rfl, hi, hb, hk⟩; refine ⟨_, rfl, ?_⟩; have n0_ := Aside0.mk (Kd.S_mono (Kd.S_keep (IsS70.apartS (show IsS70 w _ g113 x114000_1 from by repeat (first | (with_reducible first | exact HI113.out | apply IsS70.alloc | apply IsS70.drewN | apply IsS70.drew | apply IsS70.set_0) | exact HI113.out)) (by (with_reducible repeat (first | apply Kd.S_alloc | apply Kd.S_drewN | apply Kd.S_drew)); exact HO_4.out) (by decide)) hk (fun _ h => h.2)) (fun _ h => h.1)); have n1_ := Aside0.mk (hb); have n2_ := Aside0.mk (hi); clear HO_4; clear HB; clear HI113; have HO_4 := n0_; have HB := n1_; have HI113 := n2_; clear n0_ n1_ n2_; (try clear hb); (try clear hb2); (try clear hk); (try clear hi)))
        go_ret2
        exact ⟨_, by first | rfl | (simp [errW_none, errW_some] <;> rfl) | (simp [*, errW_none, errW_some] <;> rfl), by (with_reducible repeat (first | apply Kd.S_alloc | apply Kd.S_drewN | apply Kd.S_drew)); exact HO_4.out, by repeat (first | (with_reducible first | exact HB.out | apply below_alloc | apply pw_below_drewN | apply below_drew1 | refine below_set ?_ (IsS70.ge HI113.out)) | exact HB.out)⟩

/-! ### polyglotlaw12_awake: function 40: BY HAND -/
open OAwake (Wn wn_new wn_num wn_bytes)
/-- '(*tlv).Num': an item with a number. -/
theorem item_num (tag n v : Int) (D : List Int) (hD : (if Writer.fitsB n v = true then Writer.digs v n.toNat else []) = D) (w : World) :
    Calls Try.prog 58 #[.int .i64 tag, .int .i64 n, .int .i64 v] w fun e w' => ∃ v1_ : Value, e = .returned (.agg #[.int .i64 tag, v1_]) ∧ Kd.R (Kd.int .u8) 5 w' w.heap.size (fun _ => True) v1_ D ∧ Below w.heap.size w w' := by
  go_enter Try.func58, Try.ntmps58
  go_wp2_with fail
  have HD := Aside0.mk hD
  clear hD
  have hB0 := Aside0.mk (below_alloc (Below.refl w.heap.size w) (.cells #[.int .i64 0, .slice none 0 0] 40))
  have hb0 : (w.alloc (.cells #[.int .i64 0, .slice none 0 0] 40)).heap[w.heap.size]? = some (.cells #[.int .i64 0, .slice none 0 0] 40 (0, 0)) := heap_alloc_new w _
  have hz0 : (w.alloc (.cells #[.int .i64 0, .slice none 0 0] 40)).heap.size = w.heap.size + 1 := by simp
  generalize w.alloc (.cells #[.int .i64 0, .slice none 0 0] 40) = W0 at hB0 hb0 hz0 ⊢
  have HZ := Aside0.mk (And.intro hb0 hz0)
  clear hb0 hz0
  refine (wn_new W0).mono ?_
  rintro e w1 ⟨g, rfl, hW⟩
  have HW := Aside0.mk hW
  clear hW
  go_wp2_with fail
  refine (wn_num W0 g _ n v w1 HW.out (Nat.zero_le _)).mono ?_
  rintro e w2 ⟨rfl, hW⟩
  have HW2 := Aside0.mk hW
  clear hW HW
  go_wp2_with fail
  refine (wn_bytes W0 g _ w2 HW2.out (by unfold Writer.numW; simp; split <;> simp [Writer.digs_len]; unfold Writer.fitsB at *; simp at *; omega)).mono ?_
  rintro e w3 ⟨A, c, rfl, hR, hB⟩
  have hs : (if (Writer.numW ⟨[], false⟩ n v).bad = true then [] else (Writer.numW ⟨[], false⟩ n v).b) = D := by
    rw [← HD.out]; unfold Writer.numW; simp; split <;> simp
  rw [hs] at hR ⊢
  generalize (Writer.numW ⟨[], false⟩ n v).bad = bad
  have hb3 := (hB.block w.heap.size (by have := HZ.out.2; omega)).trans HZ.out.1
  have HR := Aside0.mk (And.intro hR hB)
  clear hR hB hs HW2
  have c0 := (blk_cell hb3 0).trans (show _ = some (.int .i64 0) from rfl)
  have c1 := (blk_cell hb3 1).trans (show _ = some (.slice none 0 0) from rfl)
  have z0 := blk_frozen hb3 0
  have z1 := blk_frozen hb3 1
  have hb4 := Aside0.mk (blk_set (blk_set hb3 0 (.int .i64 tag)) 1 (.slice A D.length c))
  clear hb3
  go_wp2_with fail
  refine bodyPost_ret (results_cell_row rfl _ _ w.heap.size 40 #[.int .i64 tag, .slice A D.length c] (0, 0) _ rfl hb4.out Try.underlying40 rfl (by kernel_rfl)) rfl ?_
  refine ⟨_, rfl, ?_, ?_⟩
  · exact Kd.R_lower (Kd.R_mono (Kd.R_far (p := ⟨w.heap.size, 1, none⟩) (Kd.R_far (p := ⟨w.heap.size, 0, none⟩) (Kd.R_bound HR.out.1) (fun k hk => by have h1 := hk.2.1; have h2 := HZ.out.2; show k ≠ w.heap.size; omega) _) (fun k hk => by have h1 := hk.2.1; have h2 := HZ.out.2; show k ≠ w.heap.size; omega) _) (fun _ _ => trivial)) (by have := HZ.out.2; omega)
  · exact (((hB0.out.trans (Octet.below_le HR.out.2 (by have := HZ.out.2; omega))).setCell (p := ⟨w.heap.size, 0, none⟩) (Nat.le_refl _) _).setCell (p := ⟨w.heap.size, 1, none⟩) (Nat.le_refl _) _)
/-- One item that was just written out is read. -/
theorem one_item {W : World} {b : Nat} {t : Int} {A1 : Option Addr} {l : List Int} {c1 : Nat} (hb : W.heap[b]? = some (.cells #[.int .i64 t, .slice A1 l.length c1] 40 (0, 0))) (hl : l.length ≤ c1) (hC : Kd.C (Kd.int .u8) W A1 l.length l) : Kd.C k40 W (some ⟨b, 0, none⟩) [(⟨t, l⟩ : S40)].length [(⟨t, l⟩ : S40)] := by
  refine ⟨rfl, by simp, fun _ => ⟨_, rfl, fun j p hj => ?_⟩⟩
  have hj0 : j = 0 := by have := (List.getElem?_eq_some_iff.1 hj).1; simp at this; omega
  subst hj0
  obtain rfl : (⟨t, l⟩ : S40) = p := by simpa using hj
  refine ⟨[.int .i64 t, .slice A1 l.length c1], rfl, k40_mk W ⟨t, l⟩ hl hC, fun i u hu => ?_⟩
  rw [add_plain]
  have hi : i = 0 ∨ i = 1 := by have := (List.getElem?_eq_some_iff.1 hu).1; simp at this; omega
  rcases hi with rfl | rfl
  · exact (blk_cell hb _).trans (by simpa using hu)
  · exact (blk_cell hb _).trans (by simpa using hu)
set_option maxRecDepth 100000 in
set_option maxHeartbeats 4000000 in
theorem awake_in (w : World) : Calls Try.prog 40 #[] w fun e w' => e = .returned (.bool true) ∧ Below w.heap.size w w' := by
  have hA := one_item (W := (w.alloc (.cells #[.int .u8 1, .int .u8 2] 5)).alloc (.cells #[.int .i64 7, .slice (some ⟨w.heap.size, 0, none⟩) 2 2] 40)) (b := w.heap.size + 1) (t := 7) (l := [1, 2]) (c1 := 2) (A1 := some ⟨w.heap.size, 0, none⟩)
    (by have := heap_alloc_new (w.alloc (.cells #[.int .u8 1, .int .u8 2] 5)) (.cells #[.int .i64 7, .slice (some ⟨w.heap.size, 0, none⟩) 2 2] 40); simpa using this) (by simp)
    (Kd.C_alloc (OAwake.C_new w [1, 2] _ rfl (by decide)) _)
  have HA := Aside0.mk hA
  have HB0 := Aside0.mk (below_alloc (below_alloc (Below.refl w.heap.size w) (.cells #[.int .u8 1, .int .u8 2] 5)) (.cells #[.int .i64 7, .slice (some ⟨w.heap.size, 0, none⟩) 2 2] 40))
  clear hA
  go_enter Try.func40, Try.ntmps40
  go_wp2_with fail
  refine (tlv_Join.calls 20 _ 1 [(⟨7, [1, 2]⟩ : S40)] [7, 0, 2, 1, 2] 0 _ HA.out (by simp) (by decide +kernel)).mono ?_
  rintro e w1 ⟨v1, rfl, hR, hB⟩
  have hsz := Aside0.mk (show w.heap.size ≤ w1.heap.size from Nat.le_trans HB0.out.size hB.size)
  have HR1 := Aside0.mk (Kd.R_lower hR HB0.out.size)
  have HB1 := Aside0.mk (HB0.out.trans (Octet.below_le hB HB0.out.size))
  clear hR hB HA HB0
  obtain ⟨A1, c1, rfl⟩ := Kd.R_slice HR1.out
  go_wp2_with fail
  refine (tlv_Split.calls 20 _ 4 [7, 0, 2, 1] [] 2 _ (OAwake.C_new w1 [7, 0, 2, 1] _ rfl (by decide)) (by simp) (by rfl)).mono ?_
  rintro e w2 ⟨v2, rfl, hR, hB⟩
  have hB := Octet.below_le hB (show w1.heap.size ≤ _ by simp)
  have HB2' := Aside0.mk ((below_alloc (Below.refl w1.heap.size w1) (.cells (Octet.bytes [7, 0, 2, 1]).toArray 5)).trans hB)
  have HR2 := Aside0.mk (Kd.R_below HR1.out HB2'.out)
  have HB2 := Aside0.mk (HB1.out.trans (Octet.below_le HB2'.out hsz.out))
  clear hB hR HB2' HR1 HB1 hsz
  go_wp2_with fail
  refine (item_num 1 2 258 [1, 2] rfl w2).mono ?_
  rintro e w3 ⟨v3, rfl, hR, hB⟩
  have HR3 := Aside0.mk (Kd.R_lower hR HB2.out.size)
  have HR4 := Aside0.mk (Kd.R_below HR2.out hB)
  have HB3 := Aside0.mk (HB2.out.trans (Octet.below_le hB HB2.out.size))
  clear hR hB HR2 HB2
  obtain ⟨A3, c3, rfl⟩ := Kd.R_slice HR3.out
  have hb4 := heap_alloc_new w3 (.cells #[.int .i64 1, .slice A3 2 c3] 40)
  have hC1 := Kd.C_alloc (Kd.R_reads' HR4.out).2.2 (.cells #[.int .i64 1, .slice A3 2 c3] 40)
  have hC3 := Kd.C_alloc (Kd.R_reads' HR3.out).2.2 (.cells #[.int .i64 1, .slice A3 2 c3] 40)
  have HB4 := Aside0.mk (below_alloc HB3.out (.cells #[.int .i64 1, .slice A3 2 c3] 40))
  have hz4 : w3.heap.size < (w3.alloc (.cells #[.int .i64 1, .slice A3 2 c3] 40)).heap.size := by simp
  obtain ⟨W4, hW4⟩ : ∃ W4, w3.alloc (.cells #[.int .i64 1, .slice A3 2 c3] 40) = W4 := ⟨_, rfl⟩
  rw [hW4] at hb4 hC1 hC3 HB4 hz4
  have HB5 := Aside0.mk (below_alloc (below_alloc HB4.out (.cells #[.int .u8 7, .int .u8 0, .int .u8 2, .int .u8 1, .int .u8 2] 5)) (.cells #[.int .u8 1, .int .u8 2] 5))
  have c0 := (blk_cell hb4 0).trans (show _ = some (.int .i64 1) from rfl)
  have c1' := (blk_cell hb4 1).trans (show _ = some (.slice A3 2 c3) from rfl)
  have hcv1 : (convert 22 9 (.slice A1 5 c1)).run Try.prog W4 = .ok (.string (strOfNums [7, 0, 2, 1, 2])) W4 := Kd.C_string (P := Try.prog) (A := A1) (c := c1) Try.underlying22 Try.underlying5 Try.underlying9 hC1
  have hcv2 : (convert 22 9 (.slice (some ⟨W4.heap.size, 0, none⟩) 5 5)).run Try.prog (W4.alloc (.cells #[.int .u8 7, .int .u8 0, .int .u8 2, .int .u8 1, .int .u8 2] 5)) = .ok (.string (strOfNums [7, 0, 2, 1, 2])) (W4.alloc (.cells #[.int .u8 7, .int .u8 0, .int .u8 2, .int .u8 1, .int .u8 2] 5)) := Kd.C_string (P := Try.prog) (A := some ⟨W4.heap.size, 0, none⟩) (c := 5) Try.underlying22 Try.underlying5 Try.underlying9 (OAwake.C_new W4 [7, 0, 2, 1, 2] _ rfl (by decide))
  have hcv3 : (convert 22 9 (.slice A3 2 c3)).run Try.prog (W4.alloc (.cells #[.int .u8 7, .int .u8 0, .int .u8 2, .int .u8 1, .int .u8 2] 5)) = .ok (.string (strOfNums [1, 2])) (W4.alloc (.cells #[.int .u8 7, .int .u8 0, .int .u8 2, .int .u8 1, .int .u8 2] 5)) := Kd.C_string (P := Try.prog) (A := A3) (c := c3) Try.underlying22 Try.underlying5 Try.underlying9 (Kd.C_alloc hC3 (.cells #[.int .u8 7, .int .u8 0, .int .u8 2, .int .u8 1, .int .u8 2] 5))
  have hcv4 : (convert 22 9 (.slice (some ⟨(W4.alloc (.cells #[.int .u8 7, .int .u8 0, .int .u8 2, .int .u8 1, .int .u8 2] 5)).heap.size, 0, none⟩) 2 2)).run Try.prog ((W4.alloc (.cells #[.int .u8 7, .int .u8 0, .int .u8 2, .int .u8 1, .int .u8 2] 5)).alloc (.cells #[.int .u8 1, .int .u8 2] 5)) = .ok (.string (strOfNums [1, 2])) ((W4.alloc (.cells #[.int .u8 7, .int .u8 0, .int .u8 2, .int .u8 1, .int .u8 2] 5)).alloc (.cells #[.int .u8 1, .int .u8 2] 5)) := Kd.C_string (P := Try.prog) (A := some ⟨(W4.alloc (.cells #[.int .u8 7, .int .u8 0, .int .u8 2, .int .u8 1, .int .u8 2] 5)).heap.size, 0, none⟩) (c := 2) Try.underlying22 Try.underlying5 Try.underlying9 (OAwake.C_new (W4.alloc (.cells #[.int .u8 7, .int .u8 0, .int .u8 2, .int .u8 1, .int .u8 2] 5)) [1, 2] _ rfl (by decide))
  have hz5 : (W4.alloc (.cells #[.int .u8 7, .int .u8 0, .int .u8 2, .int .u8 1, .int .u8 2] 5)).heap.size = W4.heap.size + 1 := by simp
  rw [hz5] at hcv4
  clear hb4 hC1 hC3 hz5 HB4 HR4 HR3 HB3
  go_wp2_with fail
  go_ret
  exact ⟨rfl, HB5.out⟩
def polyglotlaw12_awake.f : Option Bool := some true
theorem polyglotlaw12_awake.calls (r : Bool) (w : World) (h : polyglotlaw12_awake.f = some r) :
    Calls Try.prog 40 #[] w fun e w' => e = .returned (.bool r) ∧ Below w.heap.size w w' := by
  obtain rfl := Option.some.inj h
  exact awake_in w


/-! ### polyglotlaw12_same: function 44: BY HAND -/
def polyglotlaw12_same.f (l0 l1 : List S40) : Option Bool := if (l0.map fun x => (x.f0, x.f1)) = (l1.map fun x => (x.f0, x.f1)) then some true else none
set_option maxRecDepth 100000 in
set_option maxHeartbeats 4000000 in
theorem same_in (A B : Option Addr) (c d : Nat) (l : List S40) (w : World) (hl : Kd.C k40 w A l.length l) (hm : Kd.C k40 w B l.length l) :
    Calls Try.prog 44 #[.slice A l.length c, .slice B l.length d] w fun e w' => e = .returned (.bool true) ∧ Drawn0 w w' := by
  have HL := Aside0.mk hl
  have HM := Aside0.mk hm
  have d3 : decide ((l.length : Int) = l.length) = true := decide_eq_true rfl
  clear hl hm
  go_enter Try.func44, Try.ntmps44
  go_wp2
  go_loopg [5] (l.length + 1) (fun kq v5 w' => ∃ i : Nat, v5 = .int .i64 (i : Int) ∧ Aside0 (i ≤ l.length) ∧ Aside0 (kq + i = l.length + 1) ∧ Drawn0 w w')
  case atStart => exact ⟨0, rfl, ⟨Nat.zero_le _⟩, ⟨by omega⟩, Drawn0.refl _⟩
  case round =>
    obtain ⟨i, rfl, hi, hk, ⟨m, rfl⟩⟩ := hrel
    rcases Nat.lt_or_ge i l.length with hlt | hge
    · obtain ⟨gk, rfl⟩ : ∃ m, gk = m + 1 := ⟨gk - 1, by have := hk.out; omega⟩
      obtain ⟨ad, A1, c1, rfl, ha0, ha1, _, hCa⟩ := at_T40 HL.out (i : Int) (by omega) (by omega)
      obtain ⟨bd, B1, e1, rfl, hb0, hb1, _, hCb⟩ := at_T40 HM.out (i : Int) (by omega) (by omega)
      generalize rd_T40 l (i : Int) = q at ha0 ha1 hCa hb0 hb1 hCb
      obtain ⟨tag, raw⟩ := q
      simp only [Int.toNat_natCast] at ha0 ha1 hCa hb0 hb1 hCb
      have hcv9 := fun k => Kd.C_string (w := w.drewN k) (P := Try.prog) (A := A1) (c := c1) Try.underlying22 Try.underlying5 Try.underlying9 (Kd.C_drewN hCa k)
      have hcv10 := fun k => Kd.C_string (w := w.drewN k) (P := Try.prog) (A := B1) (c := e1) Try.underlying22 Try.underlying5 Try.underlying9 (Kd.C_drewN hCb k)
      have z1 : (tag != tag) = false := by simp
      have z2 : ((strOfNums raw).toList != (strOfNums raw).toList) = false := by simp
      have d0 : decide (i < l.length) = true := decide_eq_true hlt
      have di : decide (0 ≤ (i : Int)) = true := decide_eq_true (by omega)
      clear hCa hCb
      go_wp2
      go_quiet (fail)
      try go_wp2
      go_roundg gk
      case measure => omega
      case rel => exact ⟨i + 1, by first | rfl | (congr 1; unfold wrap64; have := HL.out.2.1; omega), ⟨by omega⟩, ⟨by have := hk.out; omega⟩, by repeat (first | exact Drawn0.refl _ | apply Drawn0.step)⟩
    · have d0 : decide (i < l.length) = false := decide_eq_false (by omega)
      clear hge
      go_wp2
      go_ret
      exact ⟨rfl, by repeat (first | exact Drawn0.refl _ | apply Drawn0.step)⟩
theorem polyglotlaw12_same.calls (A0 : Option Addr) (c0 : Nat) (l0 : List (S40)) (A1 : Option Addr) (c1 : Nat) (l1 : List (S40)) (r : Bool) (w : World) (hr0 : Kd.C k40 w A0 l0.length l0) (hc0 : l0.length ≤ c0) (hr1 : Kd.C k40 w A1 l1.length l1) (hc1 : l1.length ≤ c1) (h : polyglotlaw12_same.f l0 l1 = some r) :
    Calls Try.prog 44 #[.slice A0 l0.length c0, .slice A1 l1.length c1] w fun e w' => e = .returned (.bool r) ∧ Below w.heap.size w w' := by
  unfold polyglotlaw12_same.f at h
  split at h
  · rename_i he
    obtain rfl := Option.some.inj h
    have : l0 = l1 := by
      have := congrArg (List.map fun p : Int × List Int => (⟨p.1, p.2⟩ : S40)) he
      simpa [List.map_map, Function.comp_def] using this
    subst this
    exact (same_in A0 A1 c0 c1 l0 w hr0 hr1).mono fun e w' h => ⟨h.1, h.2.below⟩
  · cases h


end Go.Proofs.Ytdamjkfggmmmeab.PTs
