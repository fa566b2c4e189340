-- WRITTEN BY A PROGRAM OF THIS SESSION (a print of its own, with given functions). Not trusted: Lean checks it.
import Derived.Test.YtdamjkfggmmmeaaPOwx0
namespace Go.Proofs.Ytdamjkfggmmmeaa.POw
open Go.RowKit Go.Proofs.YtdamjkfggmmmeaaW.PrintWords Go.Proofs.YtdamjkfggmmmeaaW.PrintLast Go.Proofs.YtdamjkfggmmmeaaW.PrintMore
attribute [local go_sem] max2_int min2_int max_two min_two max_three min_three max_four min_four   -- for this text's walks alone
set_option linter.unusedVariables false
set_option linter.unusedSimpArgs false

/-! ### polyglotlaw01_OctetWrites: function 11: BY HAND -/
open Octet (Rd stepF numN num)
open OAwake (Wn wn_new same_is awake_is)
open OBack (pw pw_small power_is)
open OWrites (Inv Stand inv_num inv_raw inv_bytes digits_is)
def polyglotlaw01_OctetWrites.f (l0 : List S79) : Option Bool := some true
set_option maxRecDepth 100000 in
set_option maxHeartbeats 8000000 in
theorem writes_in (A0 : Option Addr) (c0 : Nat) (l0 : List S79) (w : World) (hr0 : Kd.C k79 w A0 l0.length l0) (h40 : l0.length ≤ 40) :
    Calls Try.prog 11 #[.slice A0 l0.length c0] w fun e w' => e = .returned (.bool true) ∧ Below w.heap.size w w' := by
  have HR := Aside0.mk hr0
  have H40 := Aside0.mk h40
  have d4 : decide ((40 : Int) < l0.length) = false := decide_eq_false (by omega)
  have hnot : ∀ (x : Bool) (w : World), (Op.unary .not (.bool x)).run Try.prog w = .ok (.bool (!x)) w := fun _ _ => rfl
  clear hr0 h40
  go_enter Try.func11, Try.ntmps11
  go_wp2_with fail
  refine (wn_new w).mono ?_
  rintro e w1 ⟨g, rfl, hW⟩
  have HI := Aside0.mk (show Stand w w1 g (.slice none 0 0) false (100 * 0) from ⟨_, _, Inv.new hW, rfl, fun _ => rfl, Nat.le_refl _, Nat.le_refl _⟩)
  clear hW
  go_wp2_with fail
  go_loopg [4, 5, 6] (l0.length + 1) (fun kq v4 v5 v6 w' => ∃ (i : Nat) (bad : Bool), v5 = .bool bad ∧ v6 = .int .i64 (i : Int) ∧ Aside0 (i ≤ l0.length) ∧ Aside0 (kq + i = l0.length + 1) ∧ Aside0 (Stand w w' g v4 bad (100 * i)))
  case atStart => exact ⟨0, false, rfl, rfl, ⟨Nat.zero_le _⟩, ⟨by omega⟩, HI⟩
  case round =>
    obtain ⟨i, bad, rfl, rfl, hi, hk, hS⟩ := hrel
    rcases Nat.lt_or_ge i l0.length with hlt | hge
    · obtain ⟨gk, rfl⟩ : ∃ m, gk = m + 1 := ⟨gk - 1, by have := hk.out; omega⟩
      obtain ⟨ad, Ar, cr, rfl, hx0, hx1, hx2, hrc, hrC⟩ := at_T79 HR.out (i : Int) (by omega) (by omega)
      obtain ⟨s, m, hI, hsb, hsm, hs1, hs2⟩ := hS.out
      have hb := hI.below_
      obtain ⟨A4, c4, rfl⟩ := Kd.R_slice hI.row
      generalize rd_T79 l0 (i : Int) = q at hx0 hx1 hx2 hrC
      obtain ⟨raw, N, V⟩ := q
      simp only [Int.toNat_natCast] at hx0 hx1 hx2 hrC
      have HX := Aside0.mk (And.intro hx0 (And.intro hx1 hx2))
      replace hx0 := (hb.cell (World.block_lt_of_cell? w _ hx0)).trans hx0
      replace hx1 := (hb.cell (World.block_lt_of_cell? w _ hx1)).trans hx1
      replace hx2 := (hb.cell (World.block_lt_of_cell? w _ hx2)).trans hx2
      have HI := Aside0.mk hI
      have HS := Aside0.mk (And.intro hsb (And.intro hsm (And.intro hs1 hs2)))
      have HC := Aside0.mk hrC
      clear hb hrC hrc hS hsm hs1 hs2 hI
      have d0 : decide (i < l0.length) = true := decide_eq_true hlt
      have di : decide (0 ≤ (i : Int)) = true := decide_eq_true (by omega)
      by_cases h100 : 100 < raw.length
      · have r100 : decide ((100 : Int) < raw.length) = true := decide_eq_true (by omega)
        have HB := Aside0.mk HI.out.below_
        have HA := Lib.hid (awake_is wr)
        clear HI HS h100
        go_wp2_with fail
        refine HA.out.mono ?_
        rintro e w2 ⟨rfl, hB⟩
        have HB2 := Aside0.mk (HB.out.trans (Octet.below_le hB HB.out.size))
        clear hB
        go_wp2_with fail
        go_ret
        exact ⟨rfl, HB2.out⟩
      · have r100 : decide ((100 : Int) < raw.length) = false := decide_eq_false (by omega)
        have H100 := Aside0.mk h100
        clear h100
        go_upto_if 34 with (fail)
        go_cut [4, 5] (fun v4 v5 wc => ∃ bad2 : Bool, v5 = .bool bad2 ∧ Aside0 (Stand w wc g v4 bad2 (100 * i + 100)))
        case first =>
          by_cases hz : raw.length = 0
          · have HZ := Aside0.mk hz
            clear hz
            go_upto_region 15 with (fail)
            all_goals (first | (exfalso; have := HZ.out; omega) | skip)
            go_cut [] (fun wc => Aside0 (Inv w wc g (.slice A4 m.length c4) (Writer.numW s N V) m))
            case first =>
              go_region_with (go_at_call 46; refine (inv_num w g _ s m N V _ (HI.out.step (below_drew (Below.refl _ _))) (by have := HS.out.2.2.1; have := hi.out; have := H40.out; omega)).mono ?_; rintro e w2 ⟨rfl, hI2⟩; have HI2 := Aside0.mk hI2; clear hI2)
              all_goals
                go_wp2
                go_meet
                case rel => exact HI2
            case rest =>
              have HI2 := hcut
              clear hcut HI hx0 hx1 hx2
              have hx1 := (HI2.out.below_.cell (World.block_lt_of_cell? w _ HX.out.2.1)).trans HX.out.2.1
              have hx2 := (HI2.out.below_.cell (World.block_lt_of_cell? w _ HX.out.2.2)).trans HX.out.2.2
              go_upto_region 16 with (fail)
              go_cut [98] (fun v98 wd => v98 = .bool (!Writer.fitsB N V) ∧ Aside0 (Inv w wd g (.slice A4 m.length c4) (Writer.numW s N V) m))
              case first =>
                have HD := fun k => Aside0.mk (HI2.out.step (pw_below_drewN (Below.refl _ _) k))
                by_cases b1 : N < 1
                · have e1 : decide (N < 1) = true := decide_eq_true b1
                  have ef := Aside0.mk (show true = !Writer.fitsB N V by rw [Writer.fits_no (n := N) (v := V) (by omega)]; rfl)
                  clear b1
                  go_quiet (fail)
                  try go_wp2
                  go_meet
                  case rel => exact ⟨congrArg Value.bool ef.out, HD _⟩
                · by_cases b2 : 7 < N
                  · have e1 : decide (N < 1) = false := decide_eq_false b1
                    have e2 : decide (7 < N) = true := decide_eq_true b2
                    have ef := Aside0.mk (show true = !Writer.fitsB N V by rw [Writer.fits_no (n := N) (v := V) (by omega)]; rfl)
                    clear b1 b2
                    go_quiet (fail)
                    try go_wp2
                    go_meet
                    case rel => exact ⟨congrArg Value.bool ef.out, HD _⟩
                  · by_cases b3 : V < 0
                    · have e1 : decide (N < 1) = false := decide_eq_false b1
                      have e2 : decide (7 < N) = false := decide_eq_false b2
                      have e3 : decide (V < 0) = true := decide_eq_true b3
                      have ef := Aside0.mk (show true = !Writer.fitsB N V by rw [Writer.fits_no (n := N) (v := V) (by omega)]; rfl)
                      clear b1 b2 b3
                      go_quiet (fail)
                      try go_wp2
                      go_meet
                      case rel => exact ⟨congrArg Value.bool ef.out, HD _⟩
                    · obtain ⟨n, rfl⟩ := Int.eq_ofNat_of_zero_le (show 0 ≤ N by omega)
                      have e1 : decide ((n : Int) < 1) = false := decide_eq_false b1
                      have e2 : decide ((7 : Int) < n) = false := decide_eq_false b2
                      have e3 : decide (V < 0) = false := decide_eq_false b3
                      have h7 := Aside0.mk (show n ≤ 7 by omega)
                      have ef := Aside0.mk (show decide (pw n ≤ V) = !Writer.fitsB n V by
                        unfold Writer.fitsB
                        rw [Int.toNat_natCast, show (2 : Int) ^ (8 * n) = pw n from rfl, Bool.eq_iff_iff]
                        simp; omega)
                      obtain ⟨P, hP⟩ : ∃ P, pw n = P := ⟨_, rfl⟩
                      have HP := Aside0.mk hP
                      have HPW : ∀ W, Hid (Calls Try.prog 47 #[.int .i64 (n : Int)] W fun e w' => e = .returned (.int .i64 P) ∧ w' = W) := fun W => Lib.hid (by rw [← HP.out]; exact (power_is n h7.out W).mono (fun _ _ h => ⟨h.1, h.2.symm⟩))
                      clear b1 b2 b3 hP
                      by_cases b4 : P ≤ V
                      · have e4 : decide (P ≤ V) = true := decide_eq_true b4
                        have eg := Aside0.mk (show true = !Writer.fitsB n V by rw [← ef.out, HP.out, e4])
                        clear b4
                        go_quiet ((go_at_call 47; exact Calls.quiet_of_same (HPW _).out))
                        try go_wp2
                        go_meet
                        case rel => exact ⟨congrArg Value.bool eg.out, HD _⟩
                      · have e4 : decide (P ≤ V) = false := decide_eq_false b4
                        have eg := Aside0.mk (show false = !Writer.fitsB n V by rw [← ef.out, HP.out, e4])
                        clear b4
                        go_quiet ((go_at_call 47; exact Calls.quiet_of_same (HPW _).out))
                        try go_wp2
                        go_meet
                        case rel => exact ⟨congrArg Value.bool eg.out, HD _⟩
              case rest =>
                obtain ⟨rfl, HI3⟩ := hcut
                clear hx1 hx2 HI2
                cases hf : Writer.fitsB N V with
                | false =>
                  have HJ := Aside0.mk (Stand.num_bad HI3.out (.inr hf) HS.out.2.2.1 HS.out.2.2.2)
                  clear HI3 hf
                  go_wp2
                  go_meet
                  case rel => exact ⟨true, rfl, HJ⟩
                | true =>
                  cases bad with
                  | true =>
                    have HJ := Aside0.mk (Stand.num_bad HI3.out (.inl HS.out.1) HS.out.2.2.1 HS.out.2.2.2)
                    clear HI3 hf
                    go_wp2
                    go_meet
                    case rel => exact ⟨true, rfl, HJ⟩
                  | false =>
                    have hn : 1 ≤ N ∧ N ≤ 7 ∧ 0 ≤ V := by unfold Writer.fitsB at hf; simp at hf; omega
                    obtain ⟨n, rfl⟩ := Int.eq_ofNat_of_zero_le (show 0 ≤ N by omega)
                    have hv : V < pw n := by unfold Writer.fitsB at hf; rw [Int.toNat_natCast, show (2 : Int) ^ (8 * n) = pw n from rfl] at hf; simp at hf; omega
                    have HN := Aside0.mk (And.intro hn hv)
                    have HF := Aside0.mk hf
                    have hx1 := (HI3.out.below_.cell (World.block_lt_of_cell? w _ HX.out.2.1)).trans HX.out.2.1
                    have hx2 := (HI3.out.below_.cell (World.block_lt_of_cell? w _ HX.out.2.2)).trans HX.out.2.2
                    clear hn hv hf
                    go_upto_region 19 with (fail)
                    go_region_law (first
                     | (refine Kd.R_append_rows_step (Kd.int .u8) (w0 := w) (W := w3) w.heap.size rfl (.tmp 101) (.tmp 112) 36 5 (.int .u8 0) 1 rfl Try.underlying36 Octet.info5 rfl (by decide) (by omega) (.slice A4 m.length c4) m (Writer.digs V n) _ _ _ (fun _ => True) (fun _ => False) rfl rfl ?aO ?aR (fun _ _ h => h) (fun _ h => h.elim) ?aF ?aB ?aS ?aL ?_; (case aR => exact (Kd.R_reads' HD.out.1).2.2); (case aB => exact HI4.out.below_); (case aF => intro k hk; trivial); (case aO => exact HI4.out.row); (case aS => exact HI4.out.below_.size); (case aL => have := HS.out.2.2.2; have := hi.out; have := H40.out; have := HN.out; have := Writer.digs_len V n; omega); intro v1 w4 ho hb1 hg1 hat; have HP := Aside0.mk (HI4.out.put ho hb1 hg1 hat); clear ho hb1 hg1 hat)
                     | (go_simp; go_at_call 48; refine (digits_is n V _ (by have := HN.out; omega) (by have := HN.out; omega) (by have := HN.out; omega) HN.out.2).mono ?_; rintro e w3 ⟨xd, rfl, hRd, hBd⟩; have HD := Aside0.mk (And.intro hRd hBd); have HI4 := Aside0.mk ((HI3.out.step (below_drew (Below.refl _ _))).step hBd); clear hRd hBd; obtain ⟨Ad, cd, rfl⟩ := Kd.R_slice HD.out.1))
                    all_goals
                      have HJ := Aside0.mk (Stand.num_ok HP.out HS.out.1 HF.out (by first | exact HS.out.2.1 rfl | exact HS.out.2.1 trivial) HS.out.2.2.2 (by have := HN.out; omega))
                      clear HP HI3 HI4 HD
                      go_wp2
                      go_meet
                      case rel => exact ⟨false, rfl, HJ⟩
          · have HZ := Aside0.mk hz
            clear hz
            go_wp2_with fail
            all_goals (first | (exfalso; have := HZ.out; omega) | skip)
            refine (inv_raw w g _ s m Ar raw cr wr HI.out (Kd.C_below HC.out HI.out.below_) (by have := HS.out.2.2.1; have := H100.out; have := hi.out; have := H40.out; omega)).mono ?_
            rintro e w2 ⟨rfl, hI2⟩
            have hb2 := hI2.below_
            replace hx0 := (hb2.cell (World.block_lt_of_cell? w _ HX.out.1)).trans HX.out.1
            have HI2 := Aside0.mk hI2
            clear hI2 hb2 hx1 hx2 HI
            cases bad with
            | true =>
              have HJ := Aside0.mk (Stand.raw_bad HI2.out HS.out.1 HS.out.2.2.1 HS.out.2.2.2)
              clear HI2
              go_wp2
              go_meet
              case rel => exact ⟨true, rfl, HJ⟩
            | false =>
              have HR2 := Aside0.mk HI2.out.row
              have hC2 := Aside0.mk (Kd.C_below HC.out HI2.out.below_)
              have hle := Aside0.mk (And.intro HI2.out.below_.size (show m.length + raw.length ≤ 10000 by have := HS.out.2.2.2; have := H100.out; have := hi.out; have := H40.out; omega))
              go_wp2_with (first
               | ((with_reducible refine gate_builtin (b := .append) (xs := #[.tmp 44, .tmp 49]) rfl ?_); at_builtin; go_loud (refine Kd.R_append_rows (Kd.int .u8) (w0 := w) w.heap.size rfl (.tmp 44) (.tmp 49) 36 5 (.int .u8 0) 1 rfl Try.underlying36 Octet.info5 rfl (by decide) (by omega) (.slice A4 m.length c4) m raw _ _ _ (fun _ => True) (fun _ => False) rfl rfl ?aO ?aR (fun _ _ h => h) (fun _ h => h.elim) ?aF ?aB ?aS ?aL ?_; (case aR => exact hC2.out); (case aB => exact HI2.out.below_); (case aF => intro k hk; trivial); (case aO => exact HR2.out); (case aS => exact hle.out.1); (case aL => have := hle.out.2; omega); intro v1 w3 ho hb1 hg1 hat; have HP := Aside0.mk (HI2.out.put ho hb1 hg1 hat); have hx0' := (hb1.cell (World.block_lt_of_cell? w _ HX.out.1)).trans HX.out.1; clear ho hb1 hg1 hat)))
              have HJ := Aside0.mk (Stand.raw_ok HP.out HS.out.1 (by first | exact HS.out.2.1 rfl | exact HS.out.2.1 trivial) HS.out.2.2.2 (by have := H100.out; omega))
              clear HI2 HP
              go_meet
              case rel => exact ⟨false, rfl, HJ⟩
        case rest =>
          obtain ⟨bad2, rfl, hS2⟩ := hcut
          clear HI HS hx0 hx1 hx2
          obtain ⟨s2, m2, hI2, hb2, hm2, hn1, hn2⟩ := hS2.out
          obtain ⟨A5, c5, rfl⟩ := Kd.R_slice hI2.row
          have HI2 := Aside0.mk hI2
          have HS2 := Aside0.mk (And.intro hm2 (And.intro hn1 hn2))
          have HBY := Lib.hid (inv_bytes w g _ s2 m2 _ hI2 (by have := hi.out; have := H40.out; omega))
          rw [hb2] at HBY
          have HB2 := Aside0.mk hb2
          clear hI2 hm2 hn1 hn2 hS2 hb2
          cases bad2 with
          | true =>
            go_wp2_with fail
            refine HBY.out.mono ?_
            rintro e w5 ⟨Ab, cb, rfl, hC, hI5⟩
            have HJ := Aside0.mk (show Stand w w5 g (.slice A5 m2.length c5) true (100 * (i + 1)) from ⟨s2, m2, hI5, HB2.out, (by intro h; cases h), by have := HS2.out.2.1; omega, by have := HS2.out.2.2; omega⟩)
            clear hC hI5 HI2 HBY
            go_wp2
            go_roundg gk
            case measure => omega
            case rel => exact ⟨i + 1, true, rfl, by first | rfl | (congr 1; have := hi.out; have := H40.out; unfold wrap64; omega), ⟨by omega⟩, ⟨by have := hk.out; omega⟩, HJ⟩
          | false =>
            go_wp2_with fail
            refine HBY.out.mono ?_
            rintro e w5 ⟨Ab, cb, rfl, hC, hI5⟩
            have hsm : s2.b = m2 := by first | exact HS2.out.1 rfl | exact HS2.out.1 trivial
            simp only [Bool.false_eq_true, if_false, hsm] at hC
            have HC5 := Aside0.mk hC
            have HI5 := Aside0.mk hI5
            have HJ := Aside0.mk (show Stand w w5 g (.slice A5 m2.length c5) false (100 * (i + 1)) from ⟨s2, m2, hI5, HB2.out, fun _ => hsm, by have := HS2.out.2.1; omega, by have := HS2.out.2.2; omega⟩)
            simp only [Bool.false_eq_true, if_false, hsm]
            clear hC hI5 HI2 HBY
            go_wp2_with fail
            refine (same_is Ab A5 m2 m2 _ _ w5 HC5.out (Kd.R_reads' HI5.out.row).2.2).mono ?_
            rintro e w6 ⟨rfl, ⟨md, rfl⟩⟩
            rw [show ((strOfNums m2).toList == (strOfNums m2).toList) = true by simp]
            obtain ⟨s3, m3, hI6, h6⟩ := HJ.out
            have HJ6 := Aside0.mk (show Stand w (w5.drewN md) g (.slice A5 m2.length c5) false (100 * (i + 1)) from ⟨s3, m3, hI6.step (pw_below_drewN (Below.refl _ _) md), h6⟩)
            clear HJ HC5 HI5 hI6 h6 hsm
            generalize w5.drewN md = w6 at HJ6 ⊢
            go_wp2
            go_roundg gk
            case measure => omega
            case rel => exact ⟨i + 1, false, rfl, by first | rfl | (congr 1; have := hi.out; have := H40.out; unfold wrap64; omega), ⟨by omega⟩, ⟨by have := hk.out; omega⟩, HJ6⟩
    · have d0 : decide (i < l0.length) = false := decide_eq_false (by omega)
      have HS := hS
      clear hS
      obtain ⟨s_, m_, hI_, _⟩ := HS.out
      have hb := Aside0.mk hI_.below_
      have HA := Lib.hid (awake_is wr)
      clear hI_ HS hge
      go_wp2_with fail
      refine HA.out.mono ?_
      rintro e w2 ⟨rfl, hB⟩
      have HB := Aside0.mk (hb.out.trans (Octet.below_le hB hb.out.size))
      clear hB
      go_wp2_with fail
      go_ret
      exact ⟨rfl, HB.out⟩
theorem polyglotlaw01_OctetWrites.calls (A0 : Option Addr) (c0 : Nat) (l0 : List S79) (r : Bool) (w : World) (hr0 : Kd.C k79 w A0 l0.length l0) (hc0 : l0.length ≤ c0) (h : polyglotlaw01_OctetWrites.f l0 = some r) :
    Calls Try.prog 11 #[.slice A0 l0.length c0] w fun e w' => e = .returned (.bool r) ∧ Below w.heap.size w w' := by
  obtain rfl := Option.some.inj h
  by_cases h40 : l0.length ≤ 40
  · exact writes_in A0 c0 l0 w hr0 h40
  · have d4 : decide ((40 : Int) < l0.length) = true := decide_eq_true (by omega)
    have HA := Lib.hid (awake_is w)
    clear hr0 hc0 h h40
    go_enter Try.func11, Try.ntmps11
    go_wp2_with fail
    refine HA.out.mono ?_
    rintro e w1 ⟨rfl, hB⟩
    have HB := Aside0.mk hB
    clear hB
    go_wp2_with fail
    go_ret
    exact ⟨rfl, HB.out⟩


/-- THE ONE PURE STATEMENT of polyglotlaw01_OctetWrites: yours. -/
def polyglotlaw01_OctetWrites.Pure : Prop := ∀ (l0 : List (S79)), l0.length ≤ maxLen → (∀ v ∈ l0, ((v.f0.length ≤ maxLen ∧ ∀ v4 ∈ v.f0, (Lit.int .u8 v4).wf = true) ∧ (Lit.int .i64 v.f1).wf = true ∧ (Lit.int .i64 v.f2).wf = true)) → polyglotlaw01_OctetWrites.f l0 = some true

end Go.Proofs.Ytdamjkfggmmmeaa.POw
