-- WRITTEN BY A PROGRAM OF THIS SESSION (a print of its own, with given functions). Not trusted: Lean checks it.
import Derived.Test.YtkhjeglppnibhaaPFpx0
import Derived.Test.YtkhjeglppnibhaaPFpx1
namespace Go.Proofs.Ytkhjeglppnibhaa.PFp
open Go.RowKit Go.Proofs.YtkhjeglppnibhaaW.PrintWords Go.Proofs.YtkhjeglppnibhaaW.PrintLast Go.Proofs.YtkhjeglppnibhaaW.PrintMore
attribute [local go_sem] max2_int min2_int max_two min_two max_three min_three max_four min_four   -- for this text's walks alone
set_option linter.unusedVariables false
set_option linter.unusedSimpArgs false

/-! ### polyglotlaw48_FlipsPlays: function 4: BY HAND -/
open Flips (Fl zF kF news cnt odd Is Left Opens new_log at_F rdF on_is count_is take_more odd_succ cnt_append cnt_one)
theorem recs_of {w : World} {A : Option Addr} {n : Nat} {xs : List (List S46)} (h : Kd.C (Kd.slice 46 k46) w A n xs) (i : Nat) (hi : i < n) : ∃ ad Ai c l, A = some ad ∧ w.cell? (ad.add i) = some (.slice Ai l.length c) ∧ l.length ≤ c ∧ k46.C w Ai l.length l := by
  obtain ⟨ad, c, e, _, hK, hc0⟩ := Kd.C_get h ([] : List S46) (i : Int) (by omega) (by omega)
  have hc : ∀ j u, c[j]? = some u → w.cell? (ad.add (i * 1 + j)) = some u := hc0
  obtain ⟨A0, c0, rfl, l0, g0⟩ := hK
  exact ⟨ad, A0, c0, _, e, by have hq := hc 0 _ rfl; rwa [Nat.mul_one, Nat.add_zero] at hq, l0, g0⟩
theorem ints_of {w : World} {A : Option Addr} {n : Nat} {xs : List Int} (h : Kd.C (Kd.int .i64) w A n xs) (i : Nat) (hi : i < n) : ∃ ad t, A = some ad ∧ w.cell? (ad.add i) = some (.int .i64 t) := by
  obtain ⟨ad, c, e, _, hK, hc0⟩ := Kd.C_get h (0 : Int) (i : Int) (by omega) (by omega)
  have hc : ∀ j u, c[j]? = some u → w.cell? (ad.add (i * 1 + j)) = some u := hc0
  obtain rfl := hK
  exact ⟨ad, _, e, by have hq := hc 0 _ rfl; rwa [Nat.mul_one, Nat.add_zero] at hq⟩
/-- Log, arrays and row, all of one list of flips. -/
def Plays (w W : World) (g bo bc bl : Nat) (va : Value) (N : Nat) : Prop := ∃ v L, Flips.Play w W g bo bc bl v va L L L L L ∧ L.length ≤ N
def polyglotlaw48_FlipsPlays.f (l0 : List (List S46)) (l1 : List Int) (a2 : Int) : Option Bool := some true
set_option maxRecDepth 100000 in
set_option maxHeartbeats 8000000 in
theorem plays_in (A0 : Option Addr) (c0 : Nat) (l0 : List (List S46)) (A1 : Option Addr) (c1 : Nat) (l1 : List Int) (gq : Int) (w : World) (hr0 : Kd.C (Kd.slice 46 k46) w A0 l0.length l0) (hr1 : Kd.C (Kd.int .i64) w A1 l1.length l1) (h12 : l0.length ≤ 12) (hat : l0.length ≤ l1.length) :
    Calls Try.prog 4 #[.slice A0 l0.length c0, .slice A1 l1.length c1, .int .i64 gq] w fun e w' => e = .returned (.bool true) ∧ Below w.heap.size w w' := by
  have HR := Aside0.mk hr0
  have HR1 := Aside0.mk hr1
  have H12 := Aside0.mk h12
  have HAT := Aside0.mk hat
  have d4 : decide ((12 : Int) < l0.length) = false := decide_eq_false (by omega)
  have d5 : decide (l1.length < l0.length) = false := decide_eq_false (by omega)
  have hnot : ∀ (x : Bool) (w : World), (Op.unary .not (.bool x)).run Try.prog w = .ok (.bool (!x)) w := fun _ _ => rfl
  clear hr0 hr1 h12 hat
  go_enter Try.func4, Try.ntmps4
  go_wp2_with fail
  refine (new_log w w.heap.size (Nat.le_refl _)).mono ?_
  rintro e w1 ⟨g, rfl, hI1, hg1, hB1⟩
  have HP1 := Aside0.mk (Flips.Play.new hI1 hB1)
  clear hI1 hg1 hB1
  have hmb := Flips.make_b
  have hmi := Flips.make_i
  go_wp2_with fail
  obtain ⟨W1, hW1⟩ : ∃ W1, W1 = (((w1.alloc (.cells (Flips.onC []) 4)).alloc (.cells (Flips.ctC []) 3)).alloc (.cells (Flips.ctC []) 3)) := ⟨_, rfl⟩
  obtain ⟨bo, bc, bl, e1, e2, e3⟩ : ∃ bo bc bl, bo = w1.heap.size ∧ bc = w1.heap.size + 1 ∧ bl = w1.heap.size + 1 + 1 := ⟨_, _, _, rfl, rfl, rfl⟩
  rw [← hW1, show w1.heap.size + 2 = w1.heap.size + 1 + 1 from rfl, ← e3, ← e2, ← e1] at HP1
  rw [← hW1, ← e3, ← e2, ← e1]
  clear hW1 e1 e2 e3 hmb hmi
  have HS := Aside0.mk (show Plays w W1 g bo bc bl (.slice none 0 0) (3 * 0) from ⟨_, _, HP1.out, Nat.le_refl _⟩)
  clear HP1
  go_loopg [11, 12] (l0.length + 1) (fun kq v11 v12 w' => ∃ i : Nat, v12 = .int .i64 (i : Int) ∧ Aside0 (i ≤ l0.length) ∧ Aside0 (kq + i = l0.length + 1) ∧ Aside0 (Plays w w' g bo bc bl v11 (3 * i)))
  case atStart => exact ⟨0, rfl, ⟨Nat.zero_le _⟩, ⟨by omega⟩, HS⟩
  case round =>
    obtain ⟨i, rfl, hi, hk, hS⟩ := hrel
    obtain ⟨v, L, hP, hLl⟩ := hS.out
    clear HS hS
    obtain ⟨A11, c11, rfl⟩ := Kd.R_slice hP.row
    have HP := Aside0.mk hP
    rcases Nat.lt_or_ge i l0.length with hlt | hge
    · have hLl := Aside0.mk (show L.length ≤ 3 * i ∧ i < l0.length ∧ l0.length ≤ 12 ∧ l0.length ≤ l1.length from ⟨hLl, hlt, H12.out, HAT.out⟩)
      obtain ⟨gi, rfl⟩ : ∃ m, gk = m + 1 := ⟨gk - 1, by have := hk.out; omega⟩
      obtain ⟨ad, Ai, ci, l, rfl, hx0, hlc, hC⟩ := recs_of HR.out i hlt
      obtain ⟨ad1, t, rfl, ht0⟩ := ints_of HR1.out i (by have := hLl.out; omega)
      have hx := (hP.below.cell (World.block_lt_of_cell? w _ hx0)).trans hx0
      obtain ⟨b, h20, hF⟩ := few_is Ai ci l wr (Kd.C_below hC hP.below) hlc
      have HF := Lib.hid hF
      have HC := Aside0.mk (And.intro hC hlc)
      have H20 := Aside0.mk h20
      have HX := Aside0.mk (And.intro hx0 ht0)
      have d0 : decide (i < l0.length) = true := decide_eq_true hlt
      have i0 : 0 ≤ (i : Int) := by omega
      have i1 : (i : Int) < l0.length := by omega
      have i2 : (i : Int) < l1.length := by have := hLl.out; omega
      clear hF hC h20 hlc hlt hi hx0 ht0 hP
      go_wp2_with fail
      refine HF.out.mono ?_
      rintro e w2 ⟨rfl, hB2⟩
      have HP2 := Aside0.mk (HP.out.step hB2)
      clear HP HF hB2 hx
      cases b with
      | false =>
        have HA := Lib.hid (awake_is w2)
        go_wp2_with fail
        refine HA.out.mono ?_
        rintro e w3 ⟨rfl, hB⟩
        have HB := Aside0.mk (HP2.out.below.trans (Flips.below_le hB HP2.out.below.size))
        clear hB
        go_wp2_with fail
        go_ret
        exact ⟨rfl, HB.out⟩
      | true =>
        have hx := (HP2.out.below.cell (World.block_lt_of_cell? w _ HX.out.1)).trans HX.out.1
        have ht := (HP2.out.below.cell (World.block_lt_of_cell? w _ HX.out.2)).trans HX.out.2
        go_upto_region 13 with (fail)
        go_cut [13] (fun v13 wc => Aside0 (∃ v', Flips.Play w wc g bo bc bl v' (.slice A11 L.length c11) (L ++ news L (openB l) t 3) L L L L ∧ Flips.Got w wc v' (.slice A11 L.length c11) v13 (news L (openB l) t 3)))
        case first =>
          have HD := Aside0.mk (HP2.out.step (below_drew (Below.refl _ _)))
          have HO := Aside0.mk (opens_is Ai ci l w w2.drew g (by have := H20.out trivial; omega) HC.out.1 HC.out.2 HD.out.below)
          have HL := Aside0.mk (show L.length ≤ 1000 by have := hLl.out; omega)
          have hx := (HD.out.below.cell (World.block_lt_of_cell? w _ HX.out.1)).trans HX.out.1
          have ht := (HD.out.below.cell (World.block_lt_of_cell? w _ HX.out.2)).trans HX.out.2
          go_region_with (go_at_call 8; refine (Flips.look g w.heap.size v L t Ai l.length ci (openB l) w2.drew HD.out.is HL.out HO.out).mono ?_; rintro e w3 ⟨y, v', rfl, hL, hy⟩; have HQ := Aside0.mk (HD.out.look hL hy); clear hL hy)
          all_goals
            go_wp2
            go_meet
            case rel => exact ⟨_, HQ.out.1, HQ.out.2⟩
        case rest =>
          obtain ⟨v', hP3, hG3⟩ := hcut.out
          obtain ⟨A13, c13, rfl⟩ := Kd.R_slice hG3
          have HP3 := Aside0.mk hP3
          have HG3 := Aside0.mk hG3
          clear hcut hP3 hG3 HP2 hx ht
          have HOP := Lib.hid (fun (k : Int) (W : World) (hB : Below w.heap.size w W) => open_at Ai ci l W (by have := H20.out trivial; omega) (Kd.C_below HC.out.1 hB) HC.out.2 k)
          generalize openB l = o at HP3 HG3 HOP
          go_wp2_with fail
          go_loopg [11, 14, 15] 4 (fun kq v11 v14 v15 w' => ∃ j : Nat, v14 = .int .i64 ((news L o t j).length : Nat) ∧ v15 = .int .i64 ((j : Int) + 1) ∧ Aside0 (j ≤ 3) ∧ Aside0 (kq + j = 4) ∧ Aside0 (Flips.Play w w' g bo bc bl v' v11 (L ++ news L o t 3) (L ++ news L o t j) (L ++ news L o t j) (L ++ news L o t j) (L ++ news L o t j) ∧ Flips.Got w w' v' v11 (.slice A13 (news L o t 3).length c13) (news L o t 3)))
          case atStart => exact ⟨0, rfl, rfl, ⟨Nat.zero_le _⟩, ⟨rfl⟩, ⟨by simpa [news] using HP3.out, HG3.out⟩⟩
          case round =>
            obtain ⟨j, rfl, rfl, hj, hkj, hPG⟩ := hrel
            clear HP3 HG3
            obtain ⟨Aj, cj, rfl⟩ := Kd.R_slice hPG.out.1.row
            have hx := (hPG.out.1.below.cell (World.block_lt_of_cell? w _ HX.out.1)).trans HX.out.1
            rcases Nat.lt_or_ge j 3 with hlt | hge
            · obtain ⟨gj, rfl⟩ : ∃ m, gk = m + 1 := ⟨gk - 1, by have := hkj.out; omega⟩
              have d3 : decide ((j : Int) + 1 ≤ 3) = true := decide_eq_true (by omega)
              have d3' : decide (j + 1 ≤ 3) = true := decide_eq_true (by omega)
              have HJ := Aside0.mk hlt
              clear hlt hj
              go_wp2_with fail
              refine (HOP.out _ _ hPG.out.1.below).mono ?_
              rintro e w4 ⟨rfl, hB4⟩
              have HP4 := Aside0.mk (hPG.out.1.step hB4)
              have HG4 := Aside0.mk (hPG.out.2.step hB4)
              clear hB4 hPG hx
              have HN := Aside0.mk (show news L o t (j + 1) = news L o t j ++ (if (o ((j : Int) + 1) != odd (cnt L ((j : Int) + 1))) = true then [⟨t, (j : Int) + 1, o ((j : Int) + 1)⟩] else []) from rfl)
              have hcm : cnt (L ++ news L o t j) ((j : Int) + 1) = cnt L ((j : Int) + 1) := by rw [cnt_append, Flips.news_cnt L o t j _ (by omega)]; rfl
              have o0 := (blk_cell HP4.out.ho (j + 1)).trans (Flips.onC_get _ j HJ.out)
              have z0 := blk_frozen HP4.out.ho (j + 1)
              rw [hcm] at o0
              have k0 : 0 ≤ (j : Int) + 1 := by omega
              have k1 : (j : Int) + 1 < 4 := by have := HJ.out; omega
              obtain ⟨b, hb⟩ : ∃ b, o ((j : Int) + 1) = b := ⟨_, rfl⟩
              obtain ⟨d, hd⟩ : ∃ d, odd (cnt L ((j : Int) + 1)) = d := ⟨_, rfl⟩
              rw [hb, hd] at HN
              rw [hd] at o0
              rw [hb]
              have HD := Aside0.mk (And.intro hcm (And.intro hb hd))
              clear hcm hb hd
              obtain ⟨c, hcc⟩ : ∃ c, (!b == d) = c := ⟨_, rfl⟩
              go_upto_if 74 with (fail)
              go_cut [11, 14] (fun v11 v14 wf => v14 = .int .i64 ((news L o t (j + 1)).length : Nat) ∧ Aside0 (Flips.Play w wf g bo bc bl v' v11 (L ++ news L o t 3) (L ++ news L o t (j + 1)) (L ++ news L o t (j + 1)) (L ++ news L o t (j + 1)) (L ++ news L o t (j + 1)) ∧ Flips.Got w wf v' v11 (.slice A13 (news L o t 3).length c13) (news L o t 3)))
              case first =>
                cases c with
                | false =>
                  have hbd : b = d := by simpa using hcc
                  subst hbd
                  clear hcc
                  have HN := Aside0.mk (show news L o t (j + 1) = news L o t j by rw [HN.out]; simp)
                  go_wp2_with fail
                  go_meet
                  case rel => exact ⟨by rw [HN.out], ⟨by rw [HN.out, ← List.length_append]; exact HP4.out, by rw [← List.length_append]; exact HG4.out⟩⟩
                | true =>
                  have hbb : (!b == d) = true := hcc
                  have hbd : ¬ b = d := by simpa using hbb
                  clear hcc
                  have HN := Aside0.mk (show news L o t (j + 1) = news L o t j ++ [⟨t, (j : Int) + 1, b⟩] by rw [HN.out, if_pos (by simpa using hbb)])
                  have HQ1 := HP4.out.setO j HJ.out ⟨t, (j : Int) + 1, b⟩ rfl b (by rw [HD.out.1, HD.out.2.2]; cases b <;> cases d <;> first | rfl | exact absurd rfl hbd)
                  have HQ2 := HQ1.setC j HJ.out ⟨t, (j : Int) + 1, b⟩ rfl
                  have HQ3 := HQ2.setL j HJ.out ⟨t, (j : Int) + 1, b⟩ rfl
                  have HG7 := (((HG4.out.setO HP4.out (j + 1) (.bool b)).setC HQ1 (j + 1) (.int .i64 ((cnt (L ++ news L o t j) ((j : Int) + 1) : Nat) + 1))).setL HQ2 (j + 1) (.int .i64 t))
                  have c5 := (blk_cell HQ1.hc (j + 1)).trans (Flips.ctC_get _ j HJ.out)
                  have f5 := blk_frozen HQ1.hc (j + 1)
                  have f6 := blk_frozen HQ2.hl (j + 1)
                  have c6 := (blk_cell HQ2.hl (j + 1)).trans (Flips.ltC_get _ j HJ.out)
                  have t6 := (HQ2.below.cell (World.block_lt_of_cell? w _ HX.out.2)).trans HX.out.2
                  have hcl := Flips.cnt_le (L ++ news L o t j) ((j : Int) + 1)
                  have hnl := Flips.news_len L o t j
                  have HQ := Aside0.mk (And.intro HQ3 HG7)
                  rw [List.length_append] at hcl
                  have hw : wrap64 ((cnt (L ++ news L o t j) ((j : Int) + 1) : Nat) + 1) = (cnt (L ++ news L o t j) ((j : Int) + 1) : Nat) + 1 := by unfold wrap64; have := hLl.out; have := HJ.out; omega
                  generalize ((cnt (L ++ news L o t j) ((j : Int) + 1) : Nat) : Int) = X at HQ c5 c6 f5 f6 t6 hw
                  clear HQ1 HQ2 HQ3 HG7 hcl hnl HP4 HG4 hbd
                  go_upto_region 23 with (fail)
                  generalize ((w4.setCell ⟨bo, j + 1, none⟩ (.bool b)).setCell ⟨bc, j + 1, none⟩ (.int .i64 (X + 1))).setCell ⟨bl, j + 1, none⟩ (.int .i64 t) = w7 at HQ ⊢
                  clear c5 c6 f5 f6 t6 hw o0 z0
                  obtain ⟨hlt7, hrd7⟩ := Flips.news_at L o t j HJ.out ⟨t, (j : Int) + 1, b⟩ HN.out
                  obtain ⟨ady, rfl, p0, p1, p2⟩ := at_F (Kd.R_reads' HQ.out.2).2.2 _ hlt7
                  rw [hrd7] at p0 p1 p2
                  have p0 : w7.cell? (ady.add ((news L o t j).length * 3)) = some (.int .i64 t) := p0
                  have p1 : w7.cell? ⟨(ady.add ((news L o t j).length * 3)).block, (ady.add ((news L o t j).length * 3)).off + 1, none⟩ = some (.int .i64 ((j : Int) + 1)) := p1
                  have p2 : w7.cell? ⟨(ady.add ((news L o t j).length * 3)).block, (ady.add ((news L o t j).length * 3)).off + 2, none⟩ = some (.bool b) := p2
                  have t7 := (HQ.out.1.below.cell (World.block_lt_of_cell? w _ HX.out.2)).trans HX.out.2
                  have n0 : 0 ≤ ((news L o t j).length : Int) := by omega
                  have n1 : ((news L o t j).length : Int) < ((news L o t 3).length : Int) := by omega
                  have n2 : decide ((news L o t 3).length ≤ (news L o t j).length) = false := decide_eq_false (by omega)
                  clear hlt7
                  go_quiet (fail)
                  have HP8 := Aside0.mk (HQ.out.1.step (pw_below_drewN (Below.refl _ _) nq))
                  have HG8 := Aside0.mk (HQ.out.2.step (pw_below_drewN (Below.refl _ _) nq))
                  generalize w7.drewN nq = w8 at HP8 HG8 ⊢
                  clear p0 p1 p2 t7 HQ
                  obtain ⟨_, e, p0, p1, p2⟩ := at_F (Kd.R_reads' HG8.out).2.2 (news L o t j).length (by omega)
                  cases e
                  rw [hrd7] at p0 p1 p2
                  have p0 : w8.cell? (ady.add ((news L o t j).length * 3)) = some (.int .i64 t) := p0
                  have p1 : w8.cell? ⟨(ady.add ((news L o t j).length * 3)).block, (ady.add ((news L o t j).length * 3)).off + 1, none⟩ = some (.int .i64 ((j : Int) + 1)) := p1
                  have p2 : w8.cell? ⟨(ady.add ((news L o t j).length * 3)).block, (ady.add ((news L o t j).length * 3)).off + 2, none⟩ = some (.bool b) := p2
                  clear hrd7 n2
                  have hrow := HP8.out.row
                  have hne := Aside0.mk (fun k hk => Kd.R_lt HP8.out.is.hR k hk)
                  have hll := Aside0.mk (show L.length + (news L o t j).length ≤ 1000 by have := Flips.news_len L o t j; have := hLl.out; have := HJ.out; omega)
                  have hwn : wrap64 (((news L o t j).length : Int) + 1) = ((news L o t j).length : Int) + 1 := by unfold wrap64; have := hll.out; omega
                  rw [List.length_append] at HP8 HG8 hrow
                  have hrow := Aside0.mk hrow
                  go_wp2_with (first
                   | ((with_reducible refine gate_builtin (b := .append) (xs := #[.tmp 128, .tmp 133]) rfl ?_); at_builtin; go_loud (refine Kd.R_append kF (w0 := w) w.heap.size rfl (.tmp 128) (.tmp 133) 28 32 (.agg #[(.int .i64 0), (.int .i64 0), (.bool false)]) 24 rfl Try.underlying28 Flips.infoF rfl (by decide) (by omega) (.slice Aj (L.length + (news L o t j).length) cj) (L ++ news L o t j) (⟨t, (j : Int) + 1, b⟩ : Fl) [.int .i64 t, .int .i64 ((j : Int) + 1), .bool b] (fun k => some k ≠ v'.ownBlock) (fun _ => False) rfl rfl ?aP (fun _ hk => hk.elim) ?aF ?aO ?aB ?aS ?aL ?_; (case aP => exact Flips.kF_mkM _ _ _ (⟨t, (j : Int) + 1, b⟩ : Fl)); (case aF => intro k hk e; have := hne.out k e.symm; omega); (case aO => exact hrow.out); (case aB => exact HP8.out.below); (case aS => exact HP8.out.below.size); (case aL => have := hll.out; rw [List.length_append]; omega); intro v1 w9 ho hb1 hg1 hat; have HP9 := Aside0.mk (HP8.out.put ho hb1 hg1); have HG9 := Aside0.mk (HG8.out.put hg1 hat); clear ho hb1 hg1 hat)))
                  rw [List.append_assoc, ← HN.out] at HP9
                  go_meet
                  case rel => exact ⟨by rw [HN.out, List.length_append]; rfl, ⟨HP9.out, HG9.out⟩⟩
              case rest =>
                obtain ⟨rfl, hPG⟩ := hcut
                clear HP4 HG4 o0 z0
                have hce : Flips.count (L ++ news L o t 3) ((j : Int) + 1) = cnt (L ++ news L o t (j + 1)) ((j : Int) + 1) := by
                  unfold Flips.count
                  rw [if_pos (by have := HJ.out; omega), cnt_append, cnt_append, Flips.news_all L o t j HJ.out]
                have HON := fun W (h : Is W w.heap.size g v' (L ++ news L o t 3) (L ++ news L o t 3)) => on_is w.heap.size g v' (L ++ news L o t 3) (L ++ news L o t 3) ((j : Int) + 1) W h
                have HCO := fun W (h : Is W w.heap.size g v' (L ++ news L o t 3) (L ++ news L o t 3)) => count_is w.heap.size g v' (L ++ news L o t 3) (L ++ news L o t 3) ((j : Int) + 1) W h
                rw [hce] at HON HCO
                have o0 := (blk_cell hPG.out.1.ho (j + 1)).trans (Flips.onC_get _ j HJ.out)
                have q0 := (blk_cell hPG.out.1.hc (j + 1)).trans (Flips.ctC_get _ j HJ.out)
                generalize odd (cnt (L ++ news L o t (j + 1)) ((j : Int) + 1)) = dd at HON o0
                generalize ((cnt (L ++ news L o t (j + 1)) ((j : Int) + 1) : Nat) : Int) = cc at HCO q0
                have HON : ∀ n, Hid (Calls Try.prog 10 #[.pointer (some ⟨g, 0, none⟩), .int .i64 ((j : Int) + 1)] (wc.drewN n) fun r w' => r = .returned (.bool dd) ∧ w' = wc.drewN n) := fun n => Lib.hid ((HON _ (hPG.out.1.is.step (pw_below_drewN (Below.refl _ _) n))).mono (fun _ _ h => ⟨h.1, h.2.symm⟩))
                have HCO : ∀ n, Hid (Calls Try.prog 11 #[.pointer (some ⟨g, 0, none⟩), .int .i64 ((j : Int) + 1)] (wc.drewN n) fun r w' => r = .returned (.int .i64 cc) ∧ w' = wc.drewN n) := fun n => Lib.hid ((HCO _ (hPG.out.1.is.step (pw_below_drewN (Below.refl _ _) n))).mono (fun _ _ h => ⟨h.1, h.2.symm⟩))
                clear hce
                go_upto_region 27 with (fail)
                go_quiet (first | (go_at_call 10; exact Calls.quiet_of_same (HON _).out) | (go_at_call 11; exact Calls.quiet_of_same (HCO _).out))
                have HP5 := Aside0.mk (And.intro (hPG.out.1.step (pw_below_drewN (Below.refl _ _) nq)) (hPG.out.2.step (pw_below_drewN (Below.refl _ _) nq)))
                generalize wc.drewN nq = w10 at HP5 ⊢
                clear hPG o0 q0 HON HCO
                go_wp2_with fail
                go_roundg gj
                case measure => omega
                case rel => exact ⟨j + 1, rfl, by first | rfl | (congr 1; have := HJ.out; unfold wrap64; omega), ⟨by have := HJ.out; omega⟩, ⟨by have := hkj.out; omega⟩, HP5⟩
            · have d3 : decide ((j : Int) + 1 ≤ 3) = false := decide_eq_false (by omega)
              have d3' : decide (j + 1 ≤ 3) = false := decide_eq_false (by omega)
              have hj3 := Aside0.mk (show j = 3 by have := hj.out; omega)
              have hnn : (((news L o t j).length : Int) != ((news L o t 3).length : Int)) = false := by rw [hj3.out]; simp
              have HP5 := Aside0.mk (show Plays w wr g bo bc bl (.slice Aj (L ++ news L o t j).length cj) (3 * (i + 1)) from ⟨v', L ++ news L o t 3, by have h := hPG.out.1; rw [hj3.out] at h ⊢; exact h, by rw [List.length_append]; have := Flips.news_len L o t 3; have := hLl.out; omega⟩)
              clear hPG hx
              go_wp2_with fail
              go_roundg gi
              case measure => omega
              case rel => exact ⟨i + 1, by first | rfl | (congr 1; have := hLl.out; unfold wrap64; omega), ⟨by have := hLl.out; omega⟩, ⟨by have := hk.out; omega⟩, HP5⟩
    · have d0 : decide (i < l0.length) = false := decide_eq_false (by omega)
      have hLl := Aside0.mk (show L.length ≤ 36 by have := hi.out; have := H12.out; omega)
      clear hge hi hk hP
      go_wp2_with fail
      refine (Flips.all_is g w.heap.size v L L wr HP.out.is (by have := hLl.out; omega)).mono ?_
      rintro e w2 ⟨y, rfl, hR, hB⟩
      obtain ⟨Ay, cy, rfl⟩ := Kd.R_slice hR
      have HQ := Aside0.mk (And.intro (HP.out.step hB) (Kd.R_lower hR HP.out.below.size))
      have hll : ((L.length : Int) != (L.length : Int)) = false := by simp
      clear hR hB HP d0
      go_wp2_with fail
      go_loopg [18] (L.length + 1) (fun kq v18 w' => ∃ m : Nat, v18 = .int .i64 (m : Int) ∧ Aside0 (m ≤ L.length) ∧ Aside0 (kq + m = L.length + 1) ∧ Aside0 (Flips.Play w w' g bo bc bl v (.slice A11 L.length c11) L L L L L ∧ Kd.R kF 32 w' w.heap.size (fun _ => True) (.slice Ay L.length cy) L))
      case atStart => exact ⟨0, rfl, ⟨Nat.zero_le _⟩, ⟨by omega⟩, HQ⟩
      case round =>
        obtain ⟨m, rfl, hm, hkm, hQ⟩ := hrel
        clear HQ
        rcases Nat.lt_or_ge m L.length with hlt | hge
        · obtain ⟨gm, rfl⟩ : ∃ m', gk = m' + 1 := ⟨gk - 1, by have := hkm.out; omega⟩
          obtain ⟨ada, rfl, p0, p1, p2⟩ := at_F (Kd.R_reads' hQ.out.1.row).2.2 m hlt
          obtain ⟨ady, rfl, q0, q1, q2⟩ := at_F (Kd.R_reads' hQ.out.2).2.2 m hlt
          generalize rdF L m = x at p0 p1 p2 q0 q1 q2
          have dm : decide (m < L.length) = true := decide_eq_true hlt
          have m0 : 0 ≤ (m : Int) := by omega
          have m1 : (m : Int) < L.length := by omega
          have hm := Aside0.mk hlt
          clear hlt
          go_upto_region 37 with (fail)
          go_quiet (fail)
          have HQ2 := Aside0.mk (And.intro (hQ.out.1.step (pw_below_drewN (Below.refl _ _) nq)) (Kd.R_drewN hQ.out.2 nq))
          generalize wr.drewN nq = w3 at HQ2 ⊢
          clear hQ p0 p1 p2 q0 q1 q2
          go_wp2_with fail
          go_roundg gm
          case measure => omega
          case rel => exact ⟨m + 1, by first | rfl | (congr 1; have := hm.out; have := hLl.out; unfold wrap64; omega), ⟨by have := hm.out; omega⟩, ⟨by have := hkm.out; omega⟩, HQ2⟩
        · have dm : decide (m < L.length) = false := decide_eq_false (by omega)
          have HB := hQ.out.1.below
          have HA := Lib.hid (awake_is wr)
          have HL := Lib.hid (Flips.last_is g w.heap.size v L L gq wr hQ.out.1.is (by have := hLl.out; omega))
          have HON := Lib.hid (on_is w.heap.size g v L L gq wr hQ.out.1.is)
          have HCO := Lib.hid (count_is w.heap.size g v L L gq wr hQ.out.1.is)
          clear hge hm hkm
          by_cases hq : 1 ≤ gq ∧ gq ≤ 3
          · obtain ⟨q, rfl, hq3⟩ : ∃ q : Nat, gq = (q : Int) + 1 ∧ q < 3 := ⟨(gq - 1).toNat, by omega, by omega⟩
            rw [if_pos hq] at HL
            have l0c := (blk_cell hQ.out.1.hl (q + 1)).trans (Flips.ltC_get _ q hq3)
            have c0c := (blk_cell hQ.out.1.hc (q + 1)).trans (Flips.ctC_get _ q hq3)
            generalize Flips.last L ((q : Int) + 1) = T at HL l0c
            have g1 : decide ((q : Int) + 1 < 1) = false := decide_eq_false (by omega)
            have g3 : decide ((3 : Int) < (q : Int) + 1) = false := decide_eq_false (by omega)
            have b0 : 0 ≤ (q : Int) + 1 := by omega
            have b4 : (q : Int) + 1 < 4 := by omega
            clear HON HCO hq hQ
            go_wp2_with fail
            refine HL.out.mono ?_
            rintro e w4 ⟨rfl, rfl⟩
            go_wp2_with fail
            refine HA.out.mono ?_
            rintro e w5 ⟨rfl, hB5⟩
            have HB := Aside0.mk (HB.trans (Flips.below_le hB5 HB.size))
            clear hB5
            go_wp2_with fail
            go_ret
            exact ⟨rfl, HB.out⟩
          · rw [if_neg hq] at HL
            have hc0 : Flips.count L gq = 0 := by unfold Flips.count; rw [if_neg hq]
            rw [hc0] at HON HCO
            rw [show odd 0 = false from rfl] at HON
            rw [show ((0 : Nat) : Int) = 0 from rfl] at HCO
            clear hc0 hQ
            by_cases h1 : gq < 1
            · have g1 : decide (gq < 1) = true := decide_eq_true h1
              have g2 : gq < 1 ∨ 3 < gq := .inl h1
              clear hq
              go_wp2_with fail
              refine HL.out.mono ?_
              rintro e w4 ⟨rfl, rfl⟩
              go_wp2_with fail
              refine HON.out.mono ?_
              rintro e w4 ⟨rfl, rfl⟩
              go_wp2_with fail
              refine HCO.out.mono ?_
              rintro e w4 ⟨rfl, rfl⟩
              go_wp2_with fail
              refine HA.out.mono ?_
              rintro e w5 ⟨rfl, hB5⟩
              have HB := Aside0.mk (HB.trans (Flips.below_le hB5 HB.size))
              clear hB5
              go_wp2_with fail
              go_ret
              exact ⟨rfl, HB.out⟩
            · have g1 : decide (gq < 1) = false := decide_eq_false h1
              have h3 : 3 < gq := by omega
              have g3 : decide (3 < gq) = true := decide_eq_true h3
              have g2 : gq < 1 ∨ 3 < gq := .inr h3
              clear hq
              go_wp2_with fail
              refine HL.out.mono ?_
              rintro e w4 ⟨rfl, rfl⟩
              go_wp2_with fail
              refine HON.out.mono ?_
              rintro e w4 ⟨rfl, rfl⟩
              go_wp2_with fail
              refine HCO.out.mono ?_
              rintro e w4 ⟨rfl, rfl⟩
              go_wp2_with fail
              refine HA.out.mono ?_
              rintro e w5 ⟨rfl, hB5⟩
              have HB := Aside0.mk (HB.trans (Flips.below_le hB5 HB.size))
              clear hB5
              go_wp2_with fail
              go_ret
              exact ⟨rfl, HB.out⟩
set_option maxRecDepth 100000 in
set_option maxHeartbeats 8000000 in
theorem polyglotlaw48_FlipsPlays.calls (A0 : Option Addr) (c0 : Nat) (l0 : List (List S46)) (A1 : Option Addr) (c1 : Nat) (l1 : List Int) (a2 : Int) (r : Bool) (w : World) (hr0 : Kd.C (Kd.slice 46 k46) w A0 l0.length l0) (hc0 : l0.length ≤ c0) (hr1 : Kd.C (Kd.int .i64) w A1 l1.length l1) (hc1 : l1.length ≤ c1) (h : polyglotlaw48_FlipsPlays.f l0 l1 a2 = some r) :
    Calls Try.prog 4 #[.slice A0 l0.length c0, .slice A1 l1.length c1, .int .i64 a2] w fun e w' => e = .returned (.bool r) ∧ Below w.heap.size w w' := by
  obtain rfl := Option.some.inj h
  by_cases h12 : l0.length ≤ 12
  · by_cases hat : l0.length ≤ l1.length
    · exact plays_in A0 c0 l0 A1 c1 l1 a2 w hr0 hr1 h12 hat
    · have d4 : decide ((12 : Int) < l0.length) = false := decide_eq_false (by omega)
      have d5 : decide (l1.length < l0.length) = true := decide_eq_true (by omega)
      have HA := Lib.hid (awake_is w)
      clear hr0 hc0 hr1 hc1 h h12 hat
      go_enter Try.func4, Try.ntmps4
      go_wp2_with fail
      refine HA.out.mono ?_
      rintro e w1 ⟨rfl, hB⟩
      have HB := Aside0.mk hB
      clear hB
      go_wp2_with fail
      go_ret
      exact ⟨rfl, HB.out⟩
  · have d4 : decide ((12 : Int) < l0.length) = true := decide_eq_true (by omega)
    have HA := Lib.hid (awake_is w)
    clear hr0 hc0 hr1 hc1 h h12
    go_enter Try.func4, Try.ntmps4
    go_wp2_with fail
    refine HA.out.mono ?_
    rintro e w1 ⟨rfl, hB⟩
    have HB := Aside0.mk hB
    clear hB
    go_wp2_with fail
    go_ret
    exact ⟨rfl, HB.out⟩


/-- THE ONE PURE STATEMENT of polyglotlaw48_FlipsPlays: yours. -/
def polyglotlaw48_FlipsPlays.Pure : Prop := ∀ (l0 : List (List (S46))) (l1 : List Int) (a2 : Int), l0.length ≤ maxLen → (∀ v ∈ l0, (v.length ≤ maxLen ∧ ∀ v1 ∈ v, ((Lit.int .i64 v1.f0).wf = true ∧ (Lit.int .i64 v1.f1).wf = true ∧ (Lit.int .i64 v1.f2).wf = true ∧ ((Lit.int .i64 v1.f3.f0).wf = true ∧ (Lit.int .i64 v1.f3.f1).wf = true) ∧ True ∧ (v1.f5.length ≤ maxLen ∧ ∀ v5 ∈ v1.f5, ((Lit.int .i64 v5.f0).wf = true ∧ (v5.f1.length ≤ maxLen ∧ ∀ v5_ ∈ v5.f1, (Lit.int .u8 v5_).wf = true)))))) → l1.length ≤ maxLen → (∀ v ∈ l1, (Lit.int .i64 v).wf = true) → (Lit.int .i64 a2).wf = true → polyglotlaw48_FlipsPlays.f l0 l1 a2 = some true

end Go.Proofs.Ytkhjeglppnibhaa.PFp
