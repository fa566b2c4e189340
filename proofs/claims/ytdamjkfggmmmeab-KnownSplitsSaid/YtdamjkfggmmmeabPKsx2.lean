-- WRITTEN BY A PROGRAM OF THIS SESSION (a print of its own, with given functions). Not trusted: Lean checks it.
import Derived.Test.YtdamjkfggmmmeabPKsx0
import Derived.Test.YtdamjkfggmmmeabPKsx1
namespace Go.Proofs.Ytdamjkfggmmmeab.PKs
open Go.RowKit Go.Proofs.YtdamjkfggmmmeabW.PrintWords Go.Proofs.YtdamjkfggmmmeabW.PrintLast Go.Proofs.YtdamjkfggmmmeabW.PrintMore
attribute [local go_sem] max2_int min2_int max_two min_two max_three min_three max_four min_four   -- for this text's walks alone
set_option linter.unusedVariables false
set_option linter.unusedSimpArgs false

/-! ### bag_one: function 60: BY HAND -/
set_option maxRecDepth 100000 in
set_option maxHeartbeats 4000000 in
theorem one_in (t : Int) (A : Option Addr) (c : Nat) (l : List Int) (w : World) (hr : Kd.C (Kd.int .u8) w A l.length l) (hl : l.length ≤ 1000000) :
    Calls Try.prog 60 #[.agg #[.int .i64 t, .slice A l.length c]] w fun e w' => ∃ v1_ : Value, e = .returned (.agg #[.int .i64 t, v1_]) ∧ Kd.R (Kd.int .u8) 5 w' w.heap.size (fun _ => True) v1_ l ∧ Below w.heap.size w w' := by
  obtain ⟨W1, hW1⟩ : ∃ W1, W1 = (w.alloc (.cells #[.int .i64 t, .slice A l.length c] 40)).alloc (.cells #[.int .i64 0, .slice none 0 0] 40) := ⟨_, rfl⟩
  have hz1 : W1.heap.size = w.heap.size + 1 + 1 := by rw [hW1]; simp
  have hbel1 : Below w.heap.size w W1 := by rw [hW1]; exact ((Below.refl _ _).alloc (Nat.le_refl _) _).alloc (by simp) _
  have hb0 : W1.heap[w.heap.size]? = some (.cells #[.int .i64 t, .slice A l.length c] 40 (0, 0)) := by rw [hW1]; exact blk_alloc (heap_alloc_new w _) _
  have hb1 : W1.heap[w.heap.size + 1]? = some (.cells #[.int .i64 0, .slice none 0 0] 40 (0, 0)) := by
    rw [hW1]; have := heap_alloc_new (w.alloc (.cells #[.int .i64 t, .slice A l.length c] 40)) (.cells #[.int .i64 0, .slice none 0 0] 40); simpa using this
  have hmk := Octet.make5 l.length (by omega) W1
  rw [hz1] at hmk
  obtain ⟨W2, hW2⟩ : ∃ W2, W2 = W1.alloc (.cells (List.replicate l.length (Value.int .u8 0)).toArray 5) := ⟨_, rfl⟩
  rw [← hW2] at hmk
  have hbel2 : Below w.heap.size w W2 := by rw [hW2]; exact hbel1.alloc (by omega) _
  have hb2 : W2.heap[w.heap.size + 1 + 1]? = some (.cells (List.replicate l.length (Value.int .u8 0)).toArray 5 (0, 0)) := by rw [hW2, ← hz1]; exact heap_alloc_new W1 _
  have hcp := Octet.copy5 (w.heap.size + 1 + 1) _ 5 A l c l.length W2 hb2 (by simp) (Kd.C_below hr hbel2)
  have h20 : W2.heap[w.heap.size]? = some (.cells #[.int .i64 t, .slice A l.length c] 40 (0, 0)) := by rw [hW2]; exact blk_alloc hb0 _
  have h21 : W2.heap[w.heap.size + 1]? = some (.cells #[.int .i64 0, .slice none 0 0] 40 (0, 0)) := by rw [hW2]; exact blk_alloc hb1 _
  obtain ⟨W3, hW3⟩ : ∃ W3, W3 = W2.setRow (w.heap.size + 1 + 1) (Octet.bytes l).toArray := ⟨_, rfl⟩
  rw [← hW3] at hcp
  have hb3 : W3.heap[w.heap.size + 1 + 1]? = some (.cells (Octet.bytes l).toArray 5 (0, 0)) := by rw [hW3]; exact setRow_heap W2 _ _ _ _ _ hb2
  have hbel3 : Below w.heap.size w W3 := by rw [hW3]; exact below_setRow hbel2 (by omega) _
  have hK : ∀ k, k ≠ w.heap.size + 1 + 1 → W3.heap[k]? = W2.heap[k]? := fun k hk => by rw [hW3]; exact setRow_other W2 _ _ _ hk
  have h30 := (hK w.heap.size (by omega)).trans h20
  have h31 := (hK (w.heap.size + 1) (by omega)).trans h21
  have c00 := (blk_cell hb0 0).trans (show _ = some (.int .i64 t) from rfl)
  have c01 := (blk_cell hb0 1).trans (show _ = some (.slice A l.length c) from rfl)
  have c20 := (blk_cell h20 0).trans (show _ = some (.int .i64 t) from rfl)
  have c21 := (blk_cell h20 1).trans (show _ = some (.slice A l.length c) from rfl)
  have c30 := (blk_cell h30 0).trans (show _ = some (.int .i64 t) from rfl)
  have c31 := (blk_cell h30 1).trans (show _ = some (.slice A l.length c) from rfl)
  have r0 := (blk_cell h31 0).trans (show _ = some (.int .i64 0) from rfl)
  have r1 := (blk_cell h31 1).trans (show _ = some (.slice none 0 0) from rfl)
  have z0 := blk_frozen h31 0
  have z1 := blk_frozen h31 1
  have hres := Aside0.mk (blk_set (blk_set h31 0 (.int .i64 t)) 1 (.slice (some ⟨w.heap.size + 1 + 1, 0, none⟩) l.length l.length))
  have H := Aside0.mk (And.intro (Octet.own_whole (base := w.heap.size + 1 + 1) hb3 (Nat.le_refl _) hl) hbel3)
  clear hb0 hb1 hb2 hb3 h20 h21 h30 h31 hbel1 hbel2 hbel3 hK hr hl hz1 hW2 hW3
  have hW1' := hW1.symm
  clear hW1
  go_enter Try.func60, Try.ntmps60
  go_wp2_with fail
  refine bodyPost_ret (results_cell_row rfl _ _ (w.heap.size + 1) 40 #[.int .i64 t, .slice (some ⟨w.heap.size + 1 + 1, 0, none⟩) l.length l.length] (0, 0) _ rfl hres.out Try.underlying40 rfl (by kernel_rfl)) rfl ?_
  refine ⟨_, rfl, ?_, ?_⟩
  · exact Kd.R_lower (Kd.R_mono (Kd.R_far (p := ⟨w.heap.size + 1, 1, none⟩) (Kd.R_far (p := ⟨w.heap.size + 1, 0, none⟩) (Kd.R_bound H.out.1) (fun k hk => by have h1 := hk.2.1; show k ≠ w.heap.size + 1; omega) _) (fun k hk => by have h1 := hk.2.1; show k ≠ w.heap.size + 1; omega) _) (fun _ _ => trivial)) (by omega)
  · exact ((H.out.2.setCell (p := ⟨w.heap.size + 1, 0, none⟩) (by simp) _).setCell (p := ⟨w.heap.size + 1, 1, none⟩) (by simp) _)
def bag_one.f (a0_0 : Int) (l0_1 : List Int) : Option (Int × List Int) := if l0_1.length ≤ 1000000 then some (a0_0, l0_1) else none
theorem bag_one.calls (a0_0 : Int) (A0_1 : Option Addr) (c0_1 : Nat) (l0_1 : List Int) (r1 : Int) (r2 : List Int) (w : World) (hr0_1 : Kd.C (Kd.int .u8) w A0_1 l0_1.length l0_1) (hc0_1 : l0_1.length ≤ c0_1) (h : bag_one.f a0_0 l0_1 = some (r1, r2)) :
    Calls Try.prog 60 #[.agg #[.int .i64 a0_0, .slice A0_1 l0_1.length c0_1]] w fun e w' => ∃ v1_ : Value, e = .returned (.agg #[.int .i64 r1, v1_]) ∧ Kd.R (Kd.int .u8) 5 w' w.heap.size (fun _ => True) v1_ r2 ∧ Below w.heap.size w w' := by
  unfold bag_one.f at h
  split at h
  · rename_i hl
    obtain ⟨rfl, rfl⟩ := Prod.mk.inj (Option.some.inj h)
    exact one_in a0_0 A0_1 c0_1 l0_1 w hr0_1 hl
  · cases h


/-! ### bag_Copy: function 59 -/
def bag_Copy.l0 : Nat → List (S40) → List (S40) → Int → Int → Option ((List (S40)))
  | 0, _, _, _, _ => none
  | k + 1, x3, x6, x7, x8 => if x8 < x7 then (if 0 ≤ x8 then (if x8 < (x6.length : Int) then ((bag_one.f ((rd_T40 x6 x8).f0) ((rd_T40 x6 x8).f1)).bind fun bt104 => (if x3.length < 4398046511104 then (bag_Copy.l0 k (x3 ++ [(⟨bt104.1, bt104.2⟩ : S40)]) x6 x7 (wrap64 (x8 + 1))) else (none))) else (none)) else (none)) else (some x3)
def bag_Copy.f (k : Nat) (l0 : List (S40)) : Option ((List (S40))) := bag_Copy.l0 k ([] : List (S40)) l0 (l0.length : Int) 0
theorem bag_Copy.mono_l : ∀ k, (∀ y0 y1 y2 y3, LeO (bag_Copy.l0 k y0 y1 y2 y3) (bag_Copy.l0 (k + 1) y0 y1 y2 y3))
  | 0 => fun _ _ _ _ r h => by simp [bag_Copy.l0] at h
  | k + 1 => by
    have ih0 := bag_Copy.mono_l k
    · intro y0 y1 y2 y3
      unfold bag_Copy.l0
      repeat' first
      | (with_reducible exact ih0 _ _ _ _)
      | (with_reducible exact LeO.refl _)
      | (with_reducible exact LeO.none _)
      | (with_reducible refine LeO.ite ?_ ?_)
      | (with_reducible refine LeO.bind ?_ (fun _ => ?_))
      | exact ih0 _ _ _ _
      | exact LeO.none _
      | refine LeO.ite ?_ ?_
      | refine LeO.bind ?_ (fun _ => ?_)
theorem bag_Copy.mono : ∀ a0 k, LeO (bag_Copy.f k a0) (bag_Copy.f (k + 1) a0) := by
  intro a0 k
  have ih0 := bag_Copy.mono_l k
  unfold bag_Copy.f
  repeat' first
      | (with_reducible exact ih0 _ _ _ _)
      | (with_reducible exact LeO.refl _)
      | (with_reducible exact LeO.none _)
      | (with_reducible refine LeO.ite ?_ ?_)
      | (with_reducible refine LeO.bind ?_ (fun _ => ?_))
      | exact ih0 _ _ _ _
      | exact LeO.none _
      | refine LeO.ite ?_ ?_
      | refine LeO.bind ?_ (fun _ => ?_)
set_option maxHeartbeats 8000000 in
set_option maxRecDepth 100000 in
theorem bag_Copy.calls (k : Nat) (A0 : Option Addr) (c0 : Nat) (l0 : List (S40)) (r : List (S40)) (w : World) (hr0 : Kd.C k40 w A0 l0.length l0) (hc0 : l0.length ≤ c0) (h : bag_Copy.f k l0 = some r) :
    Calls Try.prog 59 #[.slice A0 l0.length c0] w fun e w' => ∃ v0_ : Value, e = .returned (v0_) ∧ Kd.S k40 40 w' w.heap.size (fun _ => True) v0_ r ∧ Below w.heap.size w w' := by
  have hu40 := Try.underlying40
  (try have hfl40 : ∀ (a b : Value) (w : World), (Instr.field 40 (Value.agg #[a, b]) 1).run Try.prog w = .ok b w := fun _ _ _ => rfl)
  have HR0 := Aside0.mk hr0
  have HC0 := Aside0.mk hc0
  clear hr0 hc0
  have HB := Aside0.mk (Below.refl w.heap.size w)
  have H : (bag_Copy.l0 k ([] : List (S40)) l0 (l0.length : Int) 0) = some r := h
  clear h
  have H' := Aside0.mk H
  clear H
  go_enter Try.func59, Try.ntmps59
  go_wp2
  go_loopg [3, 8] k (fun kq v3 v8 w' => ∃ (x3_1 : List (S40)) (x8_1 : Int), v8 = .int .i64 x8_1 ∧ Aside0 (bag_Copy.l0 kq x3_1 l0 (l0.length : Int) x8_1 = some r) ∧ Aside0 (kq ≤ k) ∧ Aside0 (Kd.S k40 40 w' w.heap.size (fun _ => True) v3 x3_1) ∧ Aside0 (Below w.heap.size w w'))
  case atStart => exact ⟨(([] : List (S40))), (0), (by first | rfl | (simp; done) | (simp [*]; done)), H', ⟨Nat.le_refl _⟩, ⟨by first | exact Kd.S_nil _ _ _ _ _ | exact Kd.N_nil _ _ _ _ _ | exact Kd.V_nil _ _ _ _ _ | exact Kd.Q_nil _ _ _ _ _ | exact Kd.R_nil _ _ _ _ _⟩, ⟨by repeat (first | (with_reducible first | exact HB.out | apply below_alloc | apply pw_below_drewN | apply below_drew1) | exact HB.out)⟩⟩
  case round =>
    clear H'
    obtain ⟨x3_1, x8_1, rfl, HA, HK1, HO_3, HB⟩ := hrel
    cases gk with
    | zero => exact absurd HA.out (by simp [bag_Copy.l0])
    | succ k1 =>
      have H := HA.out
      clear HA
      simp only [bag_Copy.l0] at H
      by_cases c2 : x8_1 < (l0.length : Int)
      · rw [if_pos c2] at H
        have c2b0 : decide (x8_1 < (l0.length : Int)) = true := decide_eq_true c2
        clear c2
        by_cases c3 : 0 ≤ x8_1
        · rw [if_pos c3] at H
          have c3b0 : decide (0 ≤ x8_1) = true := decide_eq_true c3
          clear c3
          by_cases c4 : x8_1 < (l0.length : Int)
          · rw [if_pos c4] at H
            have c4b0 : decide (x8_1 < (l0.length : Int)) = true := decide_eq_true c4
            clear c4
            replace H := Option.bind_eq_some_iff.mp H
            obtain ⟨⟨t104, t105⟩, A50, H⟩ := H
            replace H : (if x3_1.length < 4398046511104 then (bag_Copy.l0 k1 (x3_1 ++ [(⟨t104, t105⟩ : S40)]) l0 (l0.length : Int) (wrap64 (x8_1 + 1))) else (none)) = some r := H
            have A5 := Aside0.mk A50
            clear A50
            by_cases c6 : x3_1.length < 4398046511104
            · rw [if_pos c6] at H
              have LMc6 := Aside0.mk c6
              clear c6
              obtain ⟨y108, hy108⟩ : ∃ y_ : List (S40), y_ = (x3_1 ++ [(⟨t104, t105⟩ : S40)]) := ⟨_, rfl⟩
              replace H : (bag_Copy.l0 k1 y108 l0 (l0.length : Int) (wrap64 (x8_1 + 1))) = some r := by first | (rw [hy108]; with_reducible exact H) | (have H2_ := (Option.bind_some _ _).symm.trans H; rw [hy108]; with_reducible exact H2_) | (have H2_ := (Option.bind_some _ _).symm.trans H; with_reducible exact H2_) | with_reducible exact H | (rw [hy108]; exact H) | exact H
              have Ny108 := Aside0.mk hy108
              clear hy108
              have H' := Aside0.mk H
              clear H
              have p102 : 0 ≤ (x8_1 : Int) := of_decide_eq_true (by first | (with_reducible assumption) | assumption)
              have q102 : x8_1 < (l0.length : Int) := of_decide_eq_true (by first | (with_reducible assumption) | assumption)
              obtain ⟨ad102, A102_1, c102_1, e102, hx102_0, hx102_1, hl102_1, hi102_1⟩ := at_T40 HR0.out x8_1 p102 q102
              cases e102
              replace hx102_0 := (HB.out.cell (World.block_lt_of_cell? w _ hx102_0)).trans hx102_0
              replace hx102_1 := (HB.out.cell (World.block_lt_of_cell? w _ hx102_1)).trans hx102_1
              have HR102_1 := Aside0.mk hi102_1
              have HC102_1 := Aside0.mk hl102_1
              clear hi102_1 hl102_1
              replace p102 := eq_true p102
              replace q102 := eq_true q102
              go_wp2_with (first | ((with_reducible refine gate_dst (N := 5) rfl ?_); refine box_event ?hg (N := 5) ?hd (cs := #[.int .i64 0, .slice none 0 0]) (t := 40) ?hr ?_; (case hd => rfl); (case hg => rfl); (case hr => first | (go_simp; done) | (go_simp; rfl)); intro gb103 hg w7 hbox hb; have n0_ := Aside0.mk (Kd.S_below (Kd.S_elderB (by (with_reducible repeat (first | apply Kd.S_alloc | apply Kd.S_drewN | apply Kd.S_drew)); exact HO_3.out) gb103 (Nat.le_of_eq hg.symm)) hb); have n1_ := Aside0.mk (below_step (by repeat (first | (with_reducible first | exact HB.out | apply below_alloc | apply pw_below_drewN | apply below_drew1) | exact HB.out)) hb); have n2_ := Aside0.mk (hbox); have n3_ := Aside0.mk ((by rw [hg]; exact (below_size (by repeat (first | (with_reducible first | exact HB.out | apply below_alloc | apply pw_below_drewN | apply below_drew1) | exact HB.out))) : w.heap.size ≤ gb103)); have n4_ := Aside0.mk ((by rw [hg]; exact (below_size (by repeat (first | (with_reducible first | exact HB.out | apply below_alloc | apply pw_below_drewN | apply below_drew1) | exact HB.out))) : w.heap.size ≤ gb103)); clear HO_3; clear HB; have HO_3 := n0_; have HB := n1_; have BK103 := n2_; have GW103 := n3_; have GE103 := n4_; clear n0_ n1_ n2_ n3_ n4_; clear hb hbox hg; have hcz8_0 : w7.cell? ⟨gb103, 0, none⟩ = some (.int .i64 0) := (blk_cell BK103.out 0).trans rfl; have hcz8_1 : w7.cell? ⟨gb103, 1, none⟩ = some (.slice none 0 0) := (blk_cell BK103.out 1).trans rfl; have hfz8_0 := blk_frozen BK103.out 0; have hfz8_1 := blk_frozen BK103.out 1) | ((with_reducible refine gate_callee (f := 60) rfl ?_); refine goesL_ (some 14) rfl rfl Try.func60 (by kernel_rfl) rfl #[.agg #[.int .i64 ((rd_T40 l0 x8_1).f0), .slice A102_1 ((rd_T40 l0 x8_1).f1).length c102_1]] rfl (by (try simp only [List.map_toArray, List.map_cons, List.map_nil]); first | done | rfl | (simp only [List.length_drop, List.length_take]; rfl)) ?_; (with_reducible refine (bag_one.calls ((rd_T40 l0 x8_1).f0) _ _ ((rd_T40 l0 x8_1).f1) t104 t105 _ ?side1 ?side2 A5.out).mono ?_); (case side1 => exact Kd.C_below HR102_1.out (by repeat (first | (with_reducible first | exact HB.out | apply below_alloc | apply pw_below_drewN | apply below_drew1 | refine below_set ?_ GE103.out) | exact HB.out))); (case side2 => exact HC102_1.out); rintro e w9 ⟨v106, rfl, ho0, hb⟩; refine ⟨_, rfl, ?_⟩; have n0_ := Aside0.mk (Kd.S_elder' (by (with_reducible repeat (first | apply Kd.S_alloc | apply Kd.S_drewN | apply Kd.S_drew)); exact (Kd.S_mono (Kd.S_far (p := ⟨gb103, 1, none⟩) (Kd.S_far (p := ⟨gb103, 0, none⟩) (Kd.S_mono HO_3.out (fun k_ hk => (⟨hk, hk.2⟩ : _ ∧ k_ ≠ gb103))) (fun _ hk => hk.2) (.int .i64 ((rd_T40 l0 x8_1).f0))) (fun _ hk => hk.2) (.slice A102_1 ((rd_T40 l0 x8_1).f1).length c102_1)) (fun _ h_ => h_.1))) (Kd.R_base ho0) hb); have n1_ := Aside0.mk (Kd.R_lower ho0 (below_size (by repeat (first | (with_reducible first | exact HB.out | apply below_alloc | apply pw_below_drewN | apply below_drew1 | refine below_set ?_ GE103.out) | exact HB.out)))); have n2_ := Aside0.mk (blk_below (g := gb103) (o := .cells #[.int .i64 ((rd_T40 l0 x8_1).f0), .slice A102_1 ((rd_T40 l0 x8_1).f1).length c102_1] 40 (0, 0)) (by (with_reducible repeat (first | refine blk_drewN ?_ _ | refine blk_drew ?_ | refine blk_alloc ?_ _)); refine blk_put (cs := #[.int .i64 ((rd_T40 l0 x8_1).f0), .slice none 0 0]) ?_ 1 _ rfl; (with_reducible repeat (first | refine blk_drewN ?_ _ | refine blk_drew ?_ | refine blk_alloc ?_ _)); refine blk_put (cs := #[.int .i64 0, .slice none 0 0]) ?_ 0 _ rfl; (with_reducible repeat (first | refine blk_drewN ?_ _ | refine blk_drew ?_ | refine blk_alloc ?_ _)); exact BK103.out) hb); have n3_ := Aside0.mk (below_step (by repeat (first | (with_reducible first | exact HB.out | apply below_alloc | apply pw_below_drewN | apply below_drew1 | refine below_set ?_ GE103.out) | exact HB.out)) hb); clear HO_3; clear BK103; clear HB; have HO_3 := n0_; have HO107 := n1_; have BK103 := n2_; have HB := n3_; clear n0_ n1_ n2_ n3_; (try clear hb); (try clear hb2); (try clear hk); (try clear hi); (try clear ho0); obtain ⟨Ao11, co11, eo11⟩ := Kd.R_slice HO107.out; subst eo11) | ((with_reducible refine gate_builtin (b := .append) (xs := #[.tmp 12, .tmp 15]) rfl ?_); at_builtin; refine Kd.S_append k40 (w0 := w) w.heap.size rfl (.tmp 12) (.tmp 15) 36 40 (.agg #[(.int .i64 0), (.slice none 0 0)]) 32 rfl Try.underlying36 info40 rfl (by decide) (by omega) u3 x3_1 (⟨t104, t105⟩ : S40) [.int .i64 t104, .slice Ao11 t105.length co11] (fun k_ => k_ ≠ gb103) (fun k_ => some k_ = (.slice Ao11 t105.length co11 : Value).ownBlock) rfl rfl ?aP (fun k_ hk_ => ((Kd.R_mono (ok' := fun k_ => ((fun k_ => k_ ≠ gb103)) k_ ∧ some k_ ≠ (u3 : Value).ownBlock) (Kd.R_types (Kd.R_apart' (HO107.out) (Kd.S_typed HO_3.out) (by decide)) BK103.out (by decide)) (fun k_ hk => ⟨hk.2, hk.1.2⟩))).1 k_ hk_.symm) ?aF ?aO ?aB ?aS ?aL ?_; (case aP => exact k40_mkM _ _ _ (⟨t104, t105⟩ : S40) (Kd.R_mono (Kd.R_tight rfl (Kd.R_mono (ok' := fun k_ => ((fun k_ => k_ ≠ gb103)) k_ ∧ some k_ ≠ (u3 : Value).ownBlock) (Kd.R_types (Kd.R_apart' (HO107.out) (Kd.S_typed HO_3.out) (by decide)) BK103.out (by decide)) (fun k_ hk => ⟨hk.2, hk.1.2⟩))) (fun _ h_ => h_))); (case aB => exact (by repeat (first | (with_reducible first | exact HB.out | apply below_alloc | apply pw_below_drewN | apply below_drew1 | refine below_set ?_ GE103.out) | exact HB.out))); (case aF => exact (fun k_ hk => Kd.freshB (g := gb103) (o := .cells #[.int .i64 ((rd_T40 l0 x8_1).f0), .slice A102_1 ((rd_T40 l0 x8_1).f1).length c102_1] 40 (0, 0)) (by (with_reducible repeat (first | refine blk_drewN ?_ _ | refine blk_drew ?_ | refine blk_alloc ?_ _)); exact BK103.out) k_ hk)); (case aO => exact (by (with_reducible repeat (first | apply Kd.S_alloc | apply Kd.S_drewN | apply Kd.S_drew)); exact Kd.S_mono HO_3.out (fun k_ hk => ⟨hk.1.2, fun e_ => hk.2 e_⟩))); (case aS => exact (below_size (by repeat (first | (with_reducible first | exact HB.out | apply below_alloc | apply pw_below_drewN | apply below_drew1 | refine below_set ?_ GE103.out) | exact HB.out)))); (case aL => have := LMc6.out; omega); intro v109 w10 ho hb hg hat; rw [← Ny108.out] at ho; have n0_ := Aside0.mk (blk_grown (g := gb103) (o := .cells #[.int .i64 ((rd_T40 l0 x8_1).f0), .slice A102_1 ((rd_T40 l0 x8_1).f1).length c102_1] 40 (0, 0)) (by (with_reducible repeat (first | refine blk_drewN ?_ _ | refine blk_drew ?_ | refine blk_alloc ?_ _)); exact BK103.out) hg (Kd.S_away HO_3.out (fun _ hk => hk.1.2))); have n1_ := Aside0.mk (hb); have n2_ := Aside0.mk (ho); clear BK103; clear HB; clear HO_3; clear HO107; have BK103 := n0_; have HB := n1_; have HO110 := n2_; clear n0_ n1_ n2_; clear ho hb hg hat))
              go_roundg k1
              case measure => have := HK1.out; omega
              case rel => exact ⟨(y108), (wrap64 (x8_1 + 1)), (by first | rfl | (simp; done) | (simp [*]; done)), H', ⟨by have := HK1.out; omega⟩, ⟨by (with_reducible repeat (first | apply Kd.S_alloc | apply Kd.S_drewN | apply Kd.S_drew)); exact Kd.S_mono HO110.out (fun _ hk => trivial)⟩, ⟨by repeat (first | (with_reducible first | exact HB.out | apply below_alloc | apply pw_below_drewN | apply below_drew1 | refine below_set ?_ GE103.out) | exact HB.out)⟩⟩
            · rw [if_neg c6] at H
              exact absurd H (by simp)
          · rw [if_neg c4] at H
            exact absurd H (by simp)
        · rw [if_neg c3] at H
          exact absurd H (by simp)
      · rw [if_neg c2] at H
        have c2b0 : decide (x8_1 < (l0.length : Int)) = false := decide_eq_false c2
        clear c2
        obtain rfl := Option.some.inj H
        go_wp2
        go_ret
        exact ⟨_, by first | rfl | (simp [errW_none, errW_some] <;> rfl) | (simp [*, errW_none, errW_some] <;> rfl), by (with_reducible repeat (first | apply Kd.S_alloc | apply Kd.S_drewN | apply Kd.S_drew)); exact HO_3.out, by repeat (first | (with_reducible first | exact HB.out | apply below_alloc | apply pw_below_drewN | apply below_drew1) | exact HB.out)⟩

/-! ### known_Known: function 23: BY HAND -/
def Pk (w W0 W : World) (v : Value) (L : List S40) : Prop := Kd.N k40 40 W W0.heap.size (fun k => w.heap.size ≤ k) v L ∧ Below W0.heap.size W0 W
theorem Pk.add {w W0 W : World} {v : Value} {L : List S40} {x : S40} {cs : List Value} {ops : Array Oper} {rs : List Oper} {o : Oper} {a : Act} {Q : Exit → Act → World → Prop} {okp : Nat → Prop} {sx xx : Operand} (h : Pk w W0 W v L) (h0 : w.heap.size ≤ W0.heap.size)
    (hgd : o.guard = none) (ho : o.op = .call { callee := .builtin .append, args := #[sx, xx], argTypes := #[36, 36] })
    (hs : a.eval sx = v) (hx : a.eval xx = .slice (some ⟨W.heap.size, 0, none⟩) 1 1) (hf : Kd.FK k40 W0 okp x cs) (hok : ∀ k, okp k → w.heap.size ≤ k ∧ k < W0.heap.size) (hL : L.length ≤ 1000)
    (k : ∀ v1 w1, Pk w W0 w1 v1 (L ++ [x]) → wpList Try.prog ops Q rs (a.put o.dst v1) w1) :
    wpList Try.prog ops Q (o :: rs) a (W.alloc (.cells cs.toArray 40)) := by
  have hz := h.2.size
  refine Kd.N_append (o := o) k40 (w0 := W0) W0.heap.size hgd sx xx 36 40 (.agg #[.int .i64 0, .slice none 0 0]) 32 ho Try.underlying36 (by kernel_rfl) rfl (by decide) (by decide) v L x cs (fun k => w.heap.size ≤ k) okp hs hx (Kd.FK_step hf (fun k hk _ => h.2.block k (hok k hk).2)) (fun k hk => ⟨(hok k hk).1, fun e => by have := Kd.N_base h.1 k e.symm; have := (hok k hk).2; omega⟩) (fun k hk => by omega) h.1 h.2 hz (by omega) ?_
  intro v1 w1 hN hb _ _
  exact k v1 w1 ⟨hN, hb⟩
theorem n_get {W : World} {base : Nat} {ok : Nat → Prop} {A : Option Addr} {n c : Nat} {xs : List S40} (h : Kd.N k40 40 W base ok (.slice A n c) xs) (i : Nat) (hi : i < xs.length) :
    ∃ ad cs, A = some ad ∧ Kd.FK k40 W (fun k => ok k ∧ some k ≠ (Value.slice A n c : Value).ownBlock) xs[i] cs ∧ ∀ (j : Nat) (u : Value), cs[j]? = some u → W.cell? (ad.add (i * 2 + j)) = some u := by
  obtain ⟨h0, rows, hl, hR, hf⟩ := h
  have hil : i < rows.length := by omega
  obtain ⟨hn, _, hC⟩ := Kd.R_reads' hR
  obtain ⟨ad, cc, rfl, _, hK, hcell⟩ := Kd.C_get hC [] (i : Int) (by omega) (by omega)
  have hrow : rows.getD (i : Int).toNat [] = rows[i] := by simp [hil]
  rw [hrow] at hK
  have hcc : cc = rows[i] := hK.1
  subst hcc
  exact ⟨ad, _, rfl, hf i _ _ (List.getElem?_eq_getElem hi) (List.getElem?_eq_getElem hil), fun j u hu => hcell j u hu⟩
set_option maxRecDepth 100000 in
set_option maxHeartbeats 4000000 in
theorem pick_in (p : Int → Bool) (k : Nat) (w : World) (A : Option Addr) (c : Nat) (l : List S40) (pl : Addr) (lv : Value) (hr : Kd.C k40 w A l.length l) (hc : l.length ≤ c) (hk : bag_Copy.f k l = some l) (hl : l.length ≤ 1000)
    (hlv : w.cell? pl = some lv) (HF : ∀ (t : Int) (W : World), W.cell? pl = some lv → Calls Try.prog 49 #[.int .i64 t, .pointer (some pl)] W fun e w' => e = .returned (.bool (p t)) ∧ Drawn0 W w') :
    Calls Try.prog 48 #[.slice A l.length c, .func (.func 49) #[] #[.pointer (some pl)]] w fun e w' => ∃ v : Value, e = .returned v ∧ Kd.N k40 40 w' w.heap.size (fun k => w.heap.size ≤ k) v (l.filter fun x => p x.f0) ∧ Below w.heap.size w w' := by
  have HL := Aside0.mk hl
  have HLV := Aside0.mk hlv
  clear hl hlv
  go_enter Try.func48, Try.ntmps48
  go_wp2_with fail
  refine (bag_Copy.calls k A c l l w hr hc hk).mono ?_
  rintro e W0 ⟨v0, rfl, hS, hB0⟩
  have HS := Aside0.mk (Kd.S_N (Kd.S_bound hS))
  have HB0 := Aside0.mk hB0
  obtain ⟨A0, c0, rfl⟩ := Kd.N_slice HS.out
  have hlvb := World.block_lt_of_cell? w _ HLV.out
  have HLV0 := Aside0.mk ((hB0.cell hlvb).trans HLV.out)
  have HPL := Aside0.mk hlvb
  clear hS hB0 hr hc hk HLV hlvb
  go_wp2_with fail
  go_loopg [5, 11] (l.length + 1) (fun kq v5 v11 w' => ∃ i : Nat, v11 = .int .i64 (i : Int) ∧ Aside0 (i ≤ l.length) ∧ Aside0 (kq + i = l.length + 1) ∧ Aside0 (Pk w W0 w' v5 ((l.take i).filter fun x => p x.f0)))
  case atStart => exact ⟨0, rfl, ⟨Nat.zero_le _⟩, ⟨by omega⟩, ⟨Kd.N_nil _ _ _ _ _, Below.refl _ _⟩⟩
  case round =>
    obtain ⟨i, rfl, hi, hk, hP⟩ := hrel
    rcases Nat.lt_or_ge i l.length with hlt | hge
    · obtain ⟨gk, rfl⟩ : ∃ m, gk = m + 1 := ⟨gk - 1, by have := hk.out; omega⟩
      have d0 : decide (i < l.length) = true := decide_eq_true hlt
      have di : decide (0 ≤ (i : Int)) = true := decide_eq_true (by omega)
      obtain ⟨ad, cs, rfl, hfk, hcells⟩ := n_get HS.out i hlt
      have htk : l.take (i + 1) = l.take i ++ [l[i]] := by simp [List.take_append_getElem]
      obtain ⟨x, hxe⟩ : ∃ x, x = l[i] := ⟨_, rfl⟩
      rw [← hxe] at hfk htk
      obtain ⟨A1, c1, rfl, _, _⟩ := k40_open (Kd.FK_now hfk)
      have HTK := Aside0.mk htk
      have hx0 : W0.cell? (ad.add (i * 2)) = some (.int .i64 x.f0) := hcells 0 _ rfl
      have hx1 : W0.cell? ⟨(ad.add (i * 2)).block, (ad.add (i * 2)).off + 1, none⟩ = some (.slice A1 x.f1.length c1) := by rw [← add_field _ _ 1 (by omega)]; exact hcells 1 _ rfl
      have hx0 := (hP.out.2.cell (World.block_lt_of_cell? W0 _ hx0)).trans hx0
      have hx1 := (hP.out.2.cell (World.block_lt_of_cell? W0 _ hx1)).trans hx1
      have FK := Aside0.mk hfk
      have HLT := Aside0.mk hlt
      clear hfk hcells hxe htk hlt
      have HC := HF x.f0 (wr.alloc (.cells #[.int .i64 x.f0, .slice A1 x.f1.length c1] 40)) (((below_alloc (Below.refl wr.heap.size wr) _).cell (by have := HPL.out; have := HB0.out.size; have := hP.out.2.size; omega)).trans ((hP.out.2.cell (by have := HPL.out; have := HB0.out.size; omega)).trans HLV0.out))
      have HC := Lib.hid HC
      go_wp2_with fail
      all_goals (first | (exfalso; have := HLT.out; omega) | skip)
      refine HC.out.mono ?_
      rintro e w2 ⟨rfl, ⟨m, rfl⟩⟩
      obtain ⟨W1, hW1⟩ : ∃ W1, (wr.alloc (.cells #[.int .i64 x.f0, .slice A1 x.f1.length c1] 40)).drewN m = W1 := ⟨_, rfl⟩
      have hb1 : W1.heap[wr.heap.size]? = some (.cells #[.int .i64 x.f0, .slice A1 x.f1.length c1] 40 (0, 0)) := by rw [← hW1]; exact heap_alloc_new wr _
      have hbel : Below wr.heap.size wr W1 := by rw [← hW1]; exact pw_below_drewN (below_alloc (Below.refl _ _) _) m
      have HP1 := Aside0.mk (show Pk w W0 W1 u5 ((l.take i).filter fun x => p x.f0) from ⟨Kd.N_below hP.out.1 hbel, hP.out.2.trans (Octet.below_le hbel hP.out.2.size)⟩)
      have q0 := (blk_cell hb1 0).trans (show _ = some (.int .i64 x.f0) from rfl)
      have q1 := (blk_cell hb1 1).trans (show _ = some (.slice A1 x.f1.length c1) from rfl)
      have hsz : wr.heap.size < W1.heap.size := blk_lt hb1
      rw [hW1]
      clear hx0 hx1 HC hW1 hbel hb1
      cases hpx : p x.f0 with
      | false =>
        have HJ := Aside0.mk (show Pk w W0 W1 u5 ((l.take (i + 1)).filter fun x => p x.f0) by rw [HTK.out, List.filter_append]; simpa [hpx] using HP1.out)
        clear HP1 hP hpx
        go_wp2
        go_roundg gk
        case measure => omega
        case rel => exact ⟨i + 1, by first | rfl | (congr 1; unfold wrap64; have := HL.out; have := HLT.out; omega), ⟨by have := HLT.out; omega⟩, ⟨by have := hk.out; omega⟩, HJ⟩
      | true =>
        have hlf : ((l.take i).filter fun x => p x.f0).length ≤ 1000 := Nat.le_trans (List.length_filter_le _ _) (by have := HL.out; simp; omega)
        have HLF := Aside0.mk hlf
        clear hlf hP
        go_wp2_with (first
         | ((with_reducible refine gate_builtin (b := .append) (xs := #[.tmp 19, .tmp 21]) rfl ?_); at_builtin; go_loud (refine Pk.add HP1.out HB0.out.size rfl rfl rfl (by show Value.slice _ _ _ = Value.slice _ _ _; simp) FK.out (fun k hk => ⟨hk.1.2.1, hk.1.2.2.1⟩) HLF.out ?_); intro v1 w3 hPk; have HJ := Aside0.mk (show Pk w W0 w3 v1 ((l.take (i + 1)).filter fun x => p x.f0) by rw [HTK.out, List.filter_append]; simpa [hpx] using hPk); clear hPk))
        clear HP1 hpx
        go_roundg gk
        case measure => omega
        case rel => exact ⟨i + 1, by first | rfl | (congr 1; unfold wrap64; have := HL.out; have := HLT.out; omega), ⟨by have := HLT.out; omega⟩, ⟨by have := hk.out; omega⟩, HJ⟩
    · have d0 : decide (i < l.length) = false := decide_eq_false (by omega)
      have hie : i = l.length := by have := hi.out; omega
      have htk : l.take i = l := by rw [hie, List.take_length]
      have hP' := hP.out
      rw [htk] at hP'
      have HP1 := Aside0.mk hP'
      clear hP hP' hie htk hge
      go_wp2
      go_ret
      exact ⟨_, rfl, Kd.N_lower HP1.out.1 HB0.out.size, HB0.out.trans (Octet.below_le HP1.out.2 HB0.out.size)⟩
theorem w64' {n : Int} (h0 : -9223372036854775808 ≤ n) (h1 : n < 9223372036854775808) : wrap64 n = n := by unfold wrap64; omega
theorem copy_run (l : List S40) (hl : l.length ≤ 1000) (hg : ∀ x ∈ l, x.f1.length ≤ 1000000) : ∀ (rest done : List S40), l = done ++ rest → ∃ k, bag_Copy.l0 k done l (l.length : Int) (done.length : Int) = some l
  | [], done, he => ⟨1, by rw [bag_Copy.l0, if_neg (by rw [he]; simp)]; simp [he]⟩
  | x :: rest, done, he => by
    have hll : l.length = done.length + rest.length + 1 := by rw [he]; simp; omega
    have hx : rd_T40 l (done.length : Int) = x := by rw [he]; simp [rd_T40]
    obtain ⟨k, hk⟩ := copy_run l hl hg rest (done ++ [x]) (by rw [he]; simp)
    refine ⟨k + 1, ?_⟩
    have v : wrap64 ((done.length : Int) + 1) = ((done ++ [x]).length : Int) := by rw [w64' (by omega) (by omega)]; simp
    rw [bag_Copy.l0, if_pos (by omega), if_pos (by omega), if_pos (by omega), hx]
    unfold bag_one.f
    rw [if_pos (hg x (by rw [he]; simp))]
    simp only [Option.bind_some]
    rw [if_pos (by omega), v]
    exact hk
theorem copy_is (l : List S40) (hl : l.length ≤ 1000) (hg : ∀ x ∈ l, x.f1.length ≤ 1000000) : ∃ k, bag_Copy.f k l = some l := by
  obtain ⟨k, hk⟩ := copy_run l hl hg l [] rfl
  exact ⟨k, by simpa [bag_Copy.f] using hk⟩
def kn (level t : Int) : Bool := (known_Knows.f level t).getD false
theorem kn_is (level t : Int) : known_Knows.f level t = some (kn level t) := by
  unfold kn known_Knows.f
  repeat' split
  all_goals rfl
set_option maxRecDepth 100000 in
theorem shut_Known (level t : Int) (pl : Addr) (W : World) (h : W.cell? pl = some (.int .i64 level)) :
    Calls Try.prog 49 #[.int .i64 t, .pointer (some pl)] W fun e w' => e = .returned (.bool (kn level t)) ∧ Drawn0 W w' := by
  go_enter Try.func49, Try.ntmps49
  go_wp2_with fail
  refine (known_Knows.calls level t _ W (kn_is level t)).mono ?_
  rintro e w' ⟨rfl, hD⟩
  have HD := Aside0.mk hD
  clear hD
  go_wp2
  go_ret
  exact ⟨rfl, HD.out⟩
def goodL (l : List S40) : Bool := decide (l.length ≤ 1000) && l.all fun x => decide (x.f1.length ≤ 1000000)
theorem goodL_is {l : List S40} (h : goodL l = true) : l.length ≤ 1000 ∧ ∀ x ∈ l, x.f1.length ≤ 1000000 := by
  unfold goodL at h
  simp at h
  exact ⟨h.1, h.2⟩
set_option maxRecDepth 100000 in
theorem call_Known (level : Int) (A : Option Addr) (c : Nat) (l : List S40) (w : World) (hr : Kd.C k40 w A l.length l) (hc : l.length ≤ c) (hl : l.length ≤ 1000) (hg : ∀ x ∈ l, x.f1.length ≤ 1000000) :
    Calls Try.prog 23 #[.int .i64 level, .slice A l.length c] w fun e w' => ∃ v : Value, e = .returned v ∧ Kd.N k40 40 w' w.heap.size (fun k => w.heap.size ≤ k) v (l.filter fun x => kn level x.f0) ∧ Below w.heap.size w w' := by
  have hmf : ∀ (fn : Fn) (first cap : Array Value) (w : World), (Instr.makeFunc fn first cap).run Try.prog w = .ok (.func fn first cap) w := fun _ _ _ _ => rfl
  obtain ⟨k, hk⟩ := copy_is l hl hg
  have hcell : (w.alloc (.cells #[.int .i64 level] 3)).cell? ⟨w.heap.size, 0, none⟩ = some (.int .i64 level) := (blk_cell (heap_alloc_new w _) 0).trans rfl
  have HP := Lib.hid (pick_in (kn level) k (w.alloc (.cells #[.int .i64 level] 3)) A c l ⟨w.heap.size, 0, none⟩ (.int .i64 level) (Kd.C_alloc hr _) hc hk hl hcell (fun t W h => shut_Known level t _ W h))
  have HB := Aside0.mk (below_alloc (Below.refl w.heap.size w) (.cells #[.int .i64 level] 3))
  clear hr hc hk hcell hg
  go_enter Try.func23, Try.ntmps23
  go_wp2_with fail
  refine HP.out.mono ?_
  rintro e w' ⟨v, rfl, hN, hB⟩
  have HN := Aside0.mk (And.intro (Kd.N_mono (Kd.N_lower hN HB.out.size) (fun k (hk : _ ≤ k) => Nat.le_trans HB.out.size hk)) (HB.out.trans (Octet.below_le hB HB.out.size)))
  clear hN hB
  go_wp2
  go_ret
  exact ⟨_, rfl, HN.out.1, HN.out.2⟩
def known_Known.f (a0 : Int) (l1 : List S40) : Option (List S40) := if goodL l1 = true then some (l1.filter fun x => kn a0 x.f0) else none
theorem known_Known.calls (a0 : Int) (A1 : Option Addr) (c1 : Nat) (l1 : List S40) (r : List S40) (w : World) (hr1 : Kd.C k40 w A1 l1.length l1) (hc1 : l1.length ≤ c1) (h : known_Known.f a0 l1 = some r) :
    Calls Try.prog 23 #[.int .i64 a0, .slice A1 l1.length c1] w fun e w' => ∃ v0_ : Value, e = .returned v0_ ∧ Kd.N k40 40 w' w.heap.size (fun k_ => (w.heap.size ≤ k_)) v0_ r ∧ Below w.heap.size w w' := by
  unfold known_Known.f at h
  split at h
  · rename_i hg
    obtain rfl := Option.some.inj h
    obtain ⟨h1, h2⟩ := goodL_is hg
    exact call_Known a0 A1 c1 l1 w hr1 hc1 h1 h2
  · cases h


/-! ### known_Unknown: function 24: BY HAND -/
set_option maxRecDepth 100000 in
set_option maxHeartbeats 4000000 in
theorem pick_un (p : Int → Bool) (k : Nat) (w : World) (A : Option Addr) (c : Nat) (l : List S40) (pl : Addr) (lv : Value) (hr : Kd.C k40 w A l.length l) (hc : l.length ≤ c) (hk : bag_Copy.f k l = some l) (hl : l.length ≤ 1000)
    (hlv : w.cell? pl = some lv) (HF : ∀ (t : Int) (W : World), W.cell? pl = some lv → Calls Try.prog 50 #[.int .i64 t, .pointer (some pl)] W fun e w' => e = .returned (.bool (p t)) ∧ Drawn0 W w') :
    Calls Try.prog 48 #[.slice A l.length c, .func (.func 50) #[] #[.pointer (some pl)]] w fun e w' => ∃ v : Value, e = .returned v ∧ Kd.N k40 40 w' w.heap.size (fun k => w.heap.size ≤ k) v (l.filter fun x => p x.f0) ∧ Below w.heap.size w w' := by
  have HL := Aside0.mk hl
  have HLV := Aside0.mk hlv
  clear hl hlv
  go_enter Try.func48, Try.ntmps48
  go_wp2_with fail
  refine (bag_Copy.calls k A c l l w hr hc hk).mono ?_
  rintro e W0 ⟨v0, rfl, hS, hB0⟩
  have HS := Aside0.mk (Kd.S_N (Kd.S_bound hS))
  have HB0 := Aside0.mk hB0
  obtain ⟨A0, c0, rfl⟩ := Kd.N_slice HS.out
  have hlvb := World.block_lt_of_cell? w _ HLV.out
  have HLV0 := Aside0.mk ((hB0.cell hlvb).trans HLV.out)
  have HPL := Aside0.mk hlvb
  clear hS hB0 hr hc hk HLV hlvb
  go_wp2_with fail
  go_loopg [5, 11] (l.length + 1) (fun kq v5 v11 w' => ∃ i : Nat, v11 = .int .i64 (i : Int) ∧ Aside0 (i ≤ l.length) ∧ Aside0 (kq + i = l.length + 1) ∧ Aside0 (Pk w W0 w' v5 ((l.take i).filter fun x => p x.f0)))
  case atStart => exact ⟨0, rfl, ⟨Nat.zero_le _⟩, ⟨by omega⟩, ⟨Kd.N_nil _ _ _ _ _, Below.refl _ _⟩⟩
  case round =>
    obtain ⟨i, rfl, hi, hk, hP⟩ := hrel
    rcases Nat.lt_or_ge i l.length with hlt | hge
    · obtain ⟨gk, rfl⟩ : ∃ m, gk = m + 1 := ⟨gk - 1, by have := hk.out; omega⟩
      have d0 : decide (i < l.length) = true := decide_eq_true hlt
      have di : decide (0 ≤ (i : Int)) = true := decide_eq_true (by omega)
      obtain ⟨ad, cs, rfl, hfk, hcells⟩ := n_get HS.out i hlt
      have htk : l.take (i + 1) = l.take i ++ [l[i]] := by simp [List.take_append_getElem]
      obtain ⟨x, hxe⟩ : ∃ x, x = l[i] := ⟨_, rfl⟩
      rw [← hxe] at hfk htk
      obtain ⟨A1, c1, rfl, _, _⟩ := k40_open (Kd.FK_now hfk)
      have HTK := Aside0.mk htk
      have hx0 : W0.cell? (ad.add (i * 2)) = some (.int .i64 x.f0) := hcells 0 _ rfl
      have hx1 : W0.cell? ⟨(ad.add (i * 2)).block, (ad.add (i * 2)).off + 1, none⟩ = some (.slice A1 x.f1.length c1) := by rw [← add_field _ _ 1 (by omega)]; exact hcells 1 _ rfl
      have hx0 := (hP.out.2.cell (World.block_lt_of_cell? W0 _ hx0)).trans hx0
      have hx1 := (hP.out.2.cell (World.block_lt_of_cell? W0 _ hx1)).trans hx1
      have FK := Aside0.mk hfk
      have HLT := Aside0.mk hlt
      clear hfk hcells hxe htk hlt
      have HC := HF x.f0 (wr.alloc (.cells #[.int .i64 x.f0, .slice A1 x.f1.length c1] 40)) (((below_alloc (Below.refl wr.heap.size wr) _).cell (by have := HPL.out; have := HB0.out.size; have := hP.out.2.size; omega)).trans ((hP.out.2.cell (by have := HPL.out; have := HB0.out.size; omega)).trans HLV0.out))
      have HC := Lib.hid HC
      go_wp2_with fail
      all_goals (first | (exfalso; have := HLT.out; omega) | skip)
      refine HC.out.mono ?_
      rintro e w2 ⟨rfl, ⟨m, rfl⟩⟩
      obtain ⟨W1, hW1⟩ : ∃ W1, (wr.alloc (.cells #[.int .i64 x.f0, .slice A1 x.f1.length c1] 40)).drewN m = W1 := ⟨_, rfl⟩
      have hb1 : W1.heap[wr.heap.size]? = some (.cells #[.int .i64 x.f0, .slice A1 x.f1.length c1] 40 (0, 0)) := by rw [← hW1]; exact heap_alloc_new wr _
      have hbel : Below wr.heap.size wr W1 := by rw [← hW1]; exact pw_below_drewN (below_alloc (Below.refl _ _) _) m
      have HP1 := Aside0.mk (show Pk w W0 W1 u5 ((l.take i).filter fun x => p x.f0) from ⟨Kd.N_below hP.out.1 hbel, hP.out.2.trans (Octet.below_le hbel hP.out.2.size)⟩)
      have q0 := (blk_cell hb1 0).trans (show _ = some (.int .i64 x.f0) from rfl)
      have q1 := (blk_cell hb1 1).trans (show _ = some (.slice A1 x.f1.length c1) from rfl)
      have hsz : wr.heap.size < W1.heap.size := blk_lt hb1
      rw [hW1]
      clear hx0 hx1 HC hW1 hbel hb1
      cases hpx : p x.f0 with
      | false =>
        have HJ := Aside0.mk (show Pk w W0 W1 u5 ((l.take (i + 1)).filter fun x => p x.f0) by rw [HTK.out, List.filter_append]; simpa [hpx] using HP1.out)
        clear HP1 hP hpx
        go_wp2
        go_roundg gk
        case measure => omega
        case rel => exact ⟨i + 1, by first | rfl | (congr 1; unfold wrap64; have := HL.out; have := HLT.out; omega), ⟨by have := HLT.out; omega⟩, ⟨by have := hk.out; omega⟩, HJ⟩
      | true =>
        have hlf : ((l.take i).filter fun x => p x.f0).length ≤ 1000 := Nat.le_trans (List.length_filter_le _ _) (by have := HL.out; simp; omega)
        have HLF := Aside0.mk hlf
        clear hlf hP
        go_wp2_with (first
         | ((with_reducible refine gate_builtin (b := .append) (xs := #[.tmp 19, .tmp 21]) rfl ?_); at_builtin; go_loud (refine Pk.add HP1.out HB0.out.size rfl rfl rfl (by show Value.slice _ _ _ = Value.slice _ _ _; simp) FK.out (fun k hk => ⟨hk.1.2.1, hk.1.2.2.1⟩) HLF.out ?_); intro v1 w3 hPk; have HJ := Aside0.mk (show Pk w W0 w3 v1 ((l.take (i + 1)).filter fun x => p x.f0) by rw [HTK.out, List.filter_append]; simpa [hpx] using hPk); clear hPk))
        clear HP1 hpx
        go_roundg gk
        case measure => omega
        case rel => exact ⟨i + 1, by first | rfl | (congr 1; unfold wrap64; have := HL.out; have := HLT.out; omega), ⟨by have := HLT.out; omega⟩, ⟨by have := hk.out; omega⟩, HJ⟩
    · have d0 : decide (i < l.length) = false := decide_eq_false (by omega)
      have hie : i = l.length := by have := hi.out; omega
      have htk : l.take i = l := by rw [hie, List.take_length]
      have hP' := hP.out
      rw [htk] at hP'
      have HP1 := Aside0.mk hP'
      clear hP hP' hie htk hge
      go_wp2
      go_ret
      exact ⟨_, rfl, Kd.N_lower HP1.out.1 HB0.out.size, HB0.out.trans (Octet.below_le HP1.out.2 HB0.out.size)⟩
set_option maxRecDepth 100000 in
theorem shut_Unknown (level t : Int) (pl : Addr) (W : World) (h : W.cell? pl = some (.int .i64 level)) :
    Calls Try.prog 50 #[.int .i64 t, .pointer (some pl)] W fun e w' => e = .returned (.bool (!kn level t)) ∧ Drawn0 W w' := by
  have hnot : ∀ (x : Bool) (w : World), (Op.unary .not (.bool x)).run Try.prog w = .ok (.bool (!x)) w := fun _ _ => rfl
  go_enter Try.func50, Try.ntmps50
  go_wp2_with fail
  refine (known_Knows.calls level t _ W (kn_is level t)).mono ?_
  rintro e w' ⟨rfl, hD⟩
  have HD := Aside0.mk hD
  clear hD
  go_wp2
  go_ret
  exact ⟨rfl, HD.out⟩
set_option maxRecDepth 100000 in
theorem call_Unknown (level : Int) (A : Option Addr) (c : Nat) (l : List S40) (w : World) (hr : Kd.C k40 w A l.length l) (hc : l.length ≤ c) (hl : l.length ≤ 1000) (hg : ∀ x ∈ l, x.f1.length ≤ 1000000) :
    Calls Try.prog 24 #[.int .i64 level, .slice A l.length c] w fun e w' => ∃ v : Value, e = .returned v ∧ Kd.N k40 40 w' w.heap.size (fun k => w.heap.size ≤ k) v (l.filter fun x => !kn level x.f0) ∧ Below w.heap.size w w' := by
  have hmf : ∀ (fn : Fn) (first cap : Array Value) (w : World), (Instr.makeFunc fn first cap).run Try.prog w = .ok (.func fn first cap) w := fun _ _ _ _ => rfl
  obtain ⟨k, hk⟩ := copy_is l hl hg
  have hcell : (w.alloc (.cells #[.int .i64 level] 3)).cell? ⟨w.heap.size, 0, none⟩ = some (.int .i64 level) := (blk_cell (heap_alloc_new w _) 0).trans rfl
  have HP := Lib.hid (pick_un (fun t => !kn level t) k (w.alloc (.cells #[.int .i64 level] 3)) A c l ⟨w.heap.size, 0, none⟩ (.int .i64 level) (Kd.C_alloc hr _) hc hk hl hcell (fun t W h => shut_Unknown level t _ W h))
  have HB := Aside0.mk (below_alloc (Below.refl w.heap.size w) (.cells #[.int .i64 level] 3))
  clear hr hc hk hcell hg
  go_enter Try.func24, Try.ntmps24
  go_wp2_with fail
  refine HP.out.mono ?_
  rintro e w' ⟨v, rfl, hN, hB⟩
  have HN := Aside0.mk (And.intro (Kd.N_mono (Kd.N_lower hN HB.out.size) (fun k (hk : _ ≤ k) => Nat.le_trans HB.out.size hk)) (HB.out.trans (Octet.below_le hB HB.out.size)))
  clear hN hB
  go_wp2
  go_ret
  exact ⟨_, rfl, HN.out.1, HN.out.2⟩
def known_Unknown.f (a0 : Int) (l1 : List S40) : Option (List S40) := if goodL l1 = true then some (l1.filter fun x => !kn a0 x.f0) else none
theorem known_Unknown.calls (a0 : Int) (A1 : Option Addr) (c1 : Nat) (l1 : List S40) (r : List S40) (w : World) (hr1 : Kd.C k40 w A1 l1.length l1) (hc1 : l1.length ≤ c1) (h : known_Unknown.f a0 l1 = some r) :
    Calls Try.prog 24 #[.int .i64 a0, .slice A1 l1.length c1] w fun e w' => ∃ v0_ : Value, e = .returned v0_ ∧ Kd.N k40 40 w' w.heap.size (fun k_ => (w.heap.size ≤ k_)) v0_ r ∧ Below w.heap.size w w' := by
  unfold known_Unknown.f at h
  split at h
  · rename_i hg
    obtain rfl := Option.some.inj h
    obtain ⟨h1, h2⟩ := goodL_is hg
    exact call_Unknown a0 A1 c1 l1 w hr1 hc1 h1 h2
  · cases h


/-! ### polyglotlaw07_in: function 26 -/
def polyglotlaw07_in.f (a0 : Int) (a1 : Int) : Option (Bool) := if a1 = 32 then (if a0 = 2 then (some true) else (if a0 = 3 then (some true) else (if a1 = 34 then (some (a0 == 3)) else (some false)))) else (if a1 = 33 then (if a0 = 2 then (some true) else (if a0 = 3 then (some true) else (if a1 = 34 then (some (a0 == 3)) else (some false)))) else (if a1 = 34 then (some (a0 == 3)) else (some false)))
set_option maxHeartbeats 8000000 in
set_option maxRecDepth 100000 in
theorem polyglotlaw07_in.calls (a0 : Int) (a1 : Int) (r : Bool) (w : World) (h : polyglotlaw07_in.f a0 a1 = some r) :
    Calls Try.prog 26 #[.int .i64 a0, .int .i64 a1] w fun e w' => e = .returned (.bool r) ∧ Drawn0 w w' := by
  have H : (if a1 = 32 then (if a0 = 2 then (some true) else (if a0 = 3 then (some true) else (if a1 = 34 then (some (a0 == 3)) else (some false)))) else (if a1 = 33 then (if a0 = 2 then (some true) else (if a0 = 3 then (some true) else (if a1 = 34 then (some (a0 == 3)) else (some false)))) else (if a1 = 34 then (some (a0 == 3)) else (some false)))) = some r := h
  clear h
  by_cases c3 : a1 = 32
  · rw [if_pos c3] at H
    have c3b0 : (a1 == 32) = true := beq_iff_eq.mpr c3
    have c3b1 : (a1 != 32) = false := bne_eq_false_iff_eq.mpr c3
    clear c3
    by_cases c4 : a0 = 2
    · rw [if_pos c4] at H
      have c4b0 : (a0 == 2) = true := beq_iff_eq.mpr c4
      have c4b1 : (a0 != 2) = false := bne_eq_false_iff_eq.mpr c4
      clear c4
      obtain rfl := Option.some.inj H
      go_enter Try.func26, Try.ntmps26
      go_wp2
      go_ret
      exact ⟨by first | rfl | (simp; done) | (simp [*]; done), by repeat (first | exact Drawn0.refl _ | apply Drawn0.step)⟩
    · rw [if_neg c4] at H
      have c4b0 : (a0 == 2) = false := beq_eq_false_iff_ne.mpr c4
      have c4b1 : (a0 != 2) = true := bne_iff_ne.mpr c4
      by_cases c5 : a0 = 3
      · rw [if_pos c5] at H
        have c5b0 : (a0 == 3) = true := beq_iff_eq.mpr c5
        have c5b1 : (a0 != 3) = false := bne_eq_false_iff_eq.mpr c5
        clear c5
        obtain rfl := Option.some.inj H
        go_enter Try.func26, Try.ntmps26
        go_wp2
        go_ret
        exact ⟨by first | rfl | (simp; done) | (simp [*]; done), by repeat (first | exact Drawn0.refl _ | apply Drawn0.step)⟩
      · rw [if_neg c5] at H
        have c5b0 : (a0 == 3) = false := beq_eq_false_iff_ne.mpr c5
        have c5b1 : (a0 != 3) = true := bne_iff_ne.mpr c5
        by_cases c6 : a1 = 34
        · rw [if_pos c6] at H
          have c6b0 : (a1 == 34) = true := beq_iff_eq.mpr c6
          have c6b1 : (a1 != 34) = false := bne_eq_false_iff_eq.mpr c6
          clear c6
          obtain rfl := Option.some.inj H
          go_enter Try.func26, Try.ntmps26
          go_wp2
          go_ret
          exact ⟨by first | rfl | (simp; done) | (simp [*]; done), by repeat (first | exact Drawn0.refl _ | apply Drawn0.step)⟩
        · rw [if_neg c6] at H
          have c6b0 : (a1 == 34) = false := beq_eq_false_iff_ne.mpr c6
          have c6b1 : (a1 != 34) = true := bne_iff_ne.mpr c6
          obtain rfl := Option.some.inj H
          go_enter Try.func26, Try.ntmps26
          go_wp2
          go_ret
          exact ⟨by first | rfl | (simp; done) | (simp [*]; done), by repeat (first | exact Drawn0.refl _ | apply Drawn0.step)⟩
  · rw [if_neg c3] at H
    have c3b0 : (a1 == 32) = false := beq_eq_false_iff_ne.mpr c3
    have c3b1 : (a1 != 32) = true := bne_iff_ne.mpr c3
    by_cases c7 : a1 = 33
    · rw [if_pos c7] at H
      have c7b0 : (a1 == 33) = true := beq_iff_eq.mpr c7
      have c7b1 : (a1 != 33) = false := bne_eq_false_iff_eq.mpr c7
      clear c7
      by_cases c8 : a0 = 2
      · rw [if_pos c8] at H
        have c8b0 : (a0 == 2) = true := beq_iff_eq.mpr c8
        have c8b1 : (a0 != 2) = false := bne_eq_false_iff_eq.mpr c8
        clear c8
        obtain rfl := Option.some.inj H
        go_enter Try.func26, Try.ntmps26
        go_wp2
        go_ret
        exact ⟨by first | rfl | (simp; done) | (simp [*]; done), by repeat (first | exact Drawn0.refl _ | apply Drawn0.step)⟩
      · rw [if_neg c8] at H
        have c8b0 : (a0 == 2) = false := beq_eq_false_iff_ne.mpr c8
        have c8b1 : (a0 != 2) = true := bne_iff_ne.mpr c8
        by_cases c9 : a0 = 3
        · rw [if_pos c9] at H
          have c9b0 : (a0 == 3) = true := beq_iff_eq.mpr c9
          have c9b1 : (a0 != 3) = false := bne_eq_false_iff_eq.mpr c9
          clear c9
          obtain rfl := Option.some.inj H
          go_enter Try.func26, Try.ntmps26
          go_wp2
          go_ret
          exact ⟨by first | rfl | (simp; done) | (simp [*]; done), by repeat (first | exact Drawn0.refl _ | apply Drawn0.step)⟩
        · rw [if_neg c9] at H
          have c9b0 : (a0 == 3) = false := beq_eq_false_iff_ne.mpr c9
          have c9b1 : (a0 != 3) = true := bne_iff_ne.mpr c9
          by_cases c10 : a1 = 34
          · rw [if_pos c10] at H
            have c10b0 : (a1 == 34) = true := beq_iff_eq.mpr c10
            have c10b1 : (a1 != 34) = false := bne_eq_false_iff_eq.mpr c10
            clear c10
            obtain rfl := Option.some.inj H
            go_enter Try.func26, Try.ntmps26
            go_wp2
            go_ret
            exact ⟨by first | rfl | (simp; done) | (simp [*]; done), by repeat (first | exact Drawn0.refl _ | apply Drawn0.step)⟩
          · rw [if_neg c10] at H
            have c10b0 : (a1 == 34) = false := beq_eq_false_iff_ne.mpr c10
            have c10b1 : (a1 != 34) = true := bne_iff_ne.mpr c10
            obtain rfl := Option.some.inj H
            go_enter Try.func26, Try.ntmps26
            go_wp2
            go_ret
            exact ⟨by first | rfl | (simp; done) | (simp [*]; done), by repeat (first | exact Drawn0.refl _ | apply Drawn0.step)⟩
    · rw [if_neg c7] at H
      have c7b0 : (a1 == 33) = false := beq_eq_false_iff_ne.mpr c7
      have c7b1 : (a1 != 33) = true := bne_iff_ne.mpr c7
      by_cases c11 : a1 = 34
      · rw [if_pos c11] at H
        have c11b0 : (a1 == 34) = true := beq_iff_eq.mpr c11
        have c11b1 : (a1 != 34) = false := bne_eq_false_iff_eq.mpr c11
        clear c11
        obtain rfl := Option.some.inj H
        go_enter Try.func26, Try.ntmps26
        go_wp2
        go_ret
        exact ⟨by first | rfl | (simp; done) | (simp [*]; done), by repeat (first | exact Drawn0.refl _ | apply Drawn0.step)⟩
      · rw [if_neg c11] at H
        have c11b0 : (a1 == 34) = false := beq_eq_false_iff_ne.mpr c11
        have c11b1 : (a1 != 34) = true := bne_iff_ne.mpr c11
        obtain rfl := Option.some.inj H
        go_enter Try.func26, Try.ntmps26
        go_wp2
        go_ret
        exact ⟨by first | rfl | (simp; done) | (simp [*]; done), by repeat (first | exact Drawn0.refl _ | apply Drawn0.step)⟩

/-! ### known_Name: function 27: BY HAND -/
def nameS (t : Int) : ByteArray := if t = 32 then ⟨#[122, 111, 110, 101]⟩ else if t = 33 then ⟨#[108, 111, 97, 100]⟩ else if t = 34 then ⟨#[98, 117, 105, 108, 100]⟩ else ⟨#[]⟩
set_option maxRecDepth 100000 in
theorem names_is (w : World) : Calls Try.prog 51 #[] w fun e w' => e = .returned (.agg #[.string ⟨#[122, 111, 110, 101]⟩, .string ⟨#[108, 111, 97, 100]⟩, .string ⟨#[98, 117, 105, 108, 100]⟩]) ∧ Below w.heap.size w w' := by
  go_enter Try.func51, Try.ntmps51
  have hb := Aside0.mk (heap_alloc_new w (.cells #[.string ⟨#[122, 111, 110, 101]⟩, .string ⟨#[108, 111, 97, 100]⟩, .string ⟨#[98, 117, 105, 108, 100]⟩] 75))
  go_wp2
  refine bodyPost_ret (results_cell_row rfl _ _ w.heap.size 75 #[.string ⟨#[122, 111, 110, 101]⟩, .string ⟨#[108, 111, 97, 100]⟩, .string ⟨#[98, 117, 105, 108, 100]⟩] (0, 0) _ rfl hb.out Try.underlying75 rfl (by kernel_rfl)) rfl ?_
  exact ⟨rfl, (Below.refl _ _).alloc (Nat.le_refl _) _⟩
set_option maxRecDepth 100000 in
theorem name_in (t : Int) (w : World) : Calls Try.prog 27 #[.int .i64 t] w fun e w' => e = .returned (.string (nameS t)) ∧ Below w.heap.size w w' := by
  by_cases a1 : t < 32
  · have e1 : decide (t < 32) = true := decide_eq_true a1
    go_enter Try.func27, Try.ntmps27
    go_wp2
    go_ret
    exact ⟨by unfold nameS; rw [if_neg (by omega), if_neg (by omega), if_neg (by omega)]; rfl, Below.refl _ _⟩
  · have e1 : decide (t < 32) = false := decide_eq_false a1
    by_cases a2 : 34 < t
    · have e2 : decide (34 < t) = true := decide_eq_true a2
      go_enter Try.func27, Try.ntmps27
      go_wp2
      go_ret
      exact ⟨by unfold nameS; rw [if_neg (by omega), if_neg (by omega), if_neg (by omega)]; rfl, Below.refl _ _⟩
    · have : t = 32 ∨ t = 33 ∨ t = 34 := by omega
      have x0 : ∀ (a b c : Value) (w : World), (Instr.index 75 (.agg #[a, b, c]) (.int .i64 0)).run Try.prog w = .ok a w := fun _ _ _ _ => rfl
      have x1 : ∀ (a b c : Value) (w : World), (Instr.index 75 (.agg #[a, b, c]) (.int .i64 1)).run Try.prog w = .ok b w := fun _ _ _ _ => rfl
      have x2 : ∀ (a b c : Value) (w : World), (Instr.index 75 (.agg #[a, b, c]) (.int .i64 2)).run Try.prog w = .ok c w := fun _ _ _ _ => rfl
      rcases this with rfl | rfl | rfl
      all_goals
        go_enter Try.func27, Try.ntmps27
        go_wp2_with fail
        refine (names_is w).mono ?_
        rintro e w1 ⟨rfl, hB⟩
        have HB := Aside0.mk hB
        clear hB
        go_wp2_with fail
        go_ret
        exact ⟨rfl, HB.out⟩
def known_Name.f (a0 : Int) : Option ByteArray := some (nameS a0)
theorem known_Name.calls (a0 : Int) (r : ByteArray) (w : World) (h : known_Name.f a0 = some r) :
    Calls Try.prog 27 #[.int .i64 a0] w fun e w' => e = .returned (.string r) ∧ Below w.heap.size w w' := by
  obtain rfl := Option.some.inj h
  exact name_in a0 w


/-! ### known_Tag: function 28: BY HAND -/
def tagS (s : List UInt8) : Int × Bool := if [122, 111, 110, 101] = s then (32, true) else if [108, 111, 97, 100] = s then (33, true) else if [98, 117, 105, 108, 100] = s then (34, true) else (0, false)
def tagFrom (s : List UInt8) : Nat → Int × Bool
  | 0 => tagS s
  | 1 => if [108, 111, 97, 100] = s then (33, true) else if [98, 117, 105, 108, 100] = s then (34, true) else (0, false)
  | 2 => if [98, 117, 105, 108, 100] = s then (34, true) else (0, false)
  | _ => (0, false)
set_option maxRecDepth 100000 in
theorem tag_in (s : ByteArray) (r : Int × Bool) (hr : tagS s.toList = r) (w : World) : Calls Try.prog 28 #[.string s] w fun e w' => e = .returned (.tuple #[.int .i64 r.1, .bool r.2]) ∧ Below w.heap.size w w' := by
  have HR := Aside0.mk hr
  clear hr
  go_enter Try.func28, Try.ntmps28
  go_wp2_with fail
  refine (names_is w).mono ?_
  rintro e w1 ⟨rfl, hB⟩
  have HB := Aside0.mk hB
  clear hB
  go_wp2_with fail
  have x0 : ∀ (a b c : Value) (w : World), (Instr.index 75 (.agg #[a, b, c]) (.int .i64 0)).run Try.prog w = .ok a w := fun _ _ _ _ => rfl
  have x1 : ∀ (a b c : Value) (w : World), (Instr.index 75 (.agg #[a, b, c]) (.int .i64 1)).run Try.prog w = .ok b w := fun _ _ _ _ => rfl
  have x2 : ∀ (a b c : Value) (w : World), (Instr.index 75 (.agg #[a, b, c]) (.int .i64 2)).run Try.prog w = .ok c w := fun _ _ _ _ => rfl
  go_loopg [7] 4 (fun kq v7 w' => ∃ i : Nat, v7 = .int .i64 (i : Int) ∧ Aside0 (i ≤ 3) ∧ Aside0 (kq + i = 4) ∧ Aside0 (tagFrom s.toList i = r) ∧ w' = w1)
  case atStart => exact ⟨0, rfl, ⟨by omega⟩, ⟨by omega⟩, HR, rfl⟩
  case round =>
    obtain ⟨i, rfl, hi, hk, hT, rfl⟩ := hrel
    have hi4 : i = 0 ∨ i = 1 ∨ i = 2 ∨ i = 3 := by have := hi.out; omega
    rcases hi4 with rfl | rfl | rfl | rfl
    · obtain ⟨gk, rfl⟩ : ∃ m, gk = m + 1 := ⟨gk - 1, by have := hk.out; omega⟩
      by_cases hq : ([122, 111, 110, 101] : List UInt8) = s.toList
      · have e : (([122, 111, 110, 101] : List UInt8) == s.toList) = true := beq_iff_eq.mpr hq
        have hr : r = (32, true) := by rw [← hT.out]; simp only [tagFrom, tagS]; rw [if_pos hq]
        subst hr
        clear hq
        go_wp2
        go_ret2
        exact ⟨rfl, HB.out⟩
      · have e : (([122, 111, 110, 101] : List UInt8) == s.toList) = false := beq_eq_false_iff_ne.mpr hq
        have HJ : Aside0 (tagFrom s.toList 1 = r) := ⟨by rw [← hT.out]; simp only [tagFrom, tagS]; rw [if_neg hq]⟩
        clear hq
        go_wp2
        go_roundg gk
        case measure => omega
        case rel => exact ⟨1, rfl, ⟨by omega⟩, ⟨by have := hk.out; omega⟩, HJ, rfl⟩
    · obtain ⟨gk, rfl⟩ : ∃ m, gk = m + 1 := ⟨gk - 1, by have := hk.out; omega⟩
      by_cases hq : ([108, 111, 97, 100] : List UInt8) = s.toList
      · have e : (([108, 111, 97, 100] : List UInt8) == s.toList) = true := beq_iff_eq.mpr hq
        have hr : r = (33, true) := by rw [← hT.out]; simp only [tagFrom]; rw [if_pos hq]
        subst hr
        clear hq
        go_wp2
        go_ret2
        exact ⟨rfl, HB.out⟩
      · have e : (([108, 111, 97, 100] : List UInt8) == s.toList) = false := beq_eq_false_iff_ne.mpr hq
        have HJ : Aside0 (tagFrom s.toList 2 = r) := ⟨by rw [← hT.out]; simp only [tagFrom]; rw [if_neg hq]⟩
        clear hq
        go_wp2
        go_roundg gk
        case measure => omega
        case rel => exact ⟨2, rfl, ⟨by omega⟩, ⟨by have := hk.out; omega⟩, HJ, rfl⟩
    · obtain ⟨gk, rfl⟩ : ∃ m, gk = m + 1 := ⟨gk - 1, by have := hk.out; omega⟩
      by_cases hq : ([98, 117, 105, 108, 100] : List UInt8) = s.toList
      · have e : (([98, 117, 105, 108, 100] : List UInt8) == s.toList) = true := beq_iff_eq.mpr hq
        have hr : r = (34, true) := by rw [← hT.out]; simp only [tagFrom]; rw [if_pos hq]
        subst hr
        clear hq
        go_wp2
        go_ret2
        exact ⟨rfl, HB.out⟩
      · have e : (([98, 117, 105, 108, 100] : List UInt8) == s.toList) = false := beq_eq_false_iff_ne.mpr hq
        have HJ : Aside0 (tagFrom s.toList 3 = r) := ⟨by rw [← hT.out]; simp only [tagFrom]; rw [if_neg hq]⟩
        clear hq
        go_wp2
        go_roundg gk
        case measure => omega
        case rel => exact ⟨3, rfl, ⟨by omega⟩, ⟨by have := hk.out; omega⟩, HJ, rfl⟩
    · go_wp2
      go_ret2
      have := hT.out
      subst this
      exact ⟨rfl, HB.out⟩
def known_Tag.f (a0 : ByteArray) : Option (Int × Bool) := some (tagS a0.toList)
theorem known_Tag.calls (a0 : ByteArray) (r1 : Int) (r2 : Bool) (w : World) (h : known_Tag.f a0 = some (r1, r2)) :
    Calls Try.prog 28 #[.string a0] w fun e w' => e = .returned (.tuple #[.int .i64 r1, .bool r2]) ∧ Below w.heap.size w w' :=
  tag_in a0 (r1, r2) (Option.some.inj h) w


end Go.Proofs.Ytdamjkfggmmmeab.PKs
