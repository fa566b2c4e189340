-- WRITTEN BY A PROGRAM OF THIS SESSION (a print of its own, with given functions). Not trusted: Lean checks it.
import Derived.Test.YtkhjeglppnibhaaPFtx0
import Derived.Test.YtkhjeglppnibhaaPFtx1
namespace Go.Proofs.Ytkhjeglppnibhaa.PFt
open Go.RowKit Go.Proofs.YtkhjeglppnibhaaW.PrintWords Go.Proofs.YtkhjeglppnibhaaW.PrintLast Go.Proofs.YtkhjeglppnibhaaW.PrintMore
attribute [local go_sem] max2_int min2_int max_two min_two max_three min_three max_four min_four   -- for this text's walks alone
set_option linter.unusedVariables false
set_option linter.unusedSimpArgs false

/-! ### polyglotlaw48_FlipsTurns: function 3: BY HAND -/
open Flips (Fl zF kF news cnt odd Is Left Opens new_log at_F rdF Alt Stand AllTold stand_look told_all on_is count_is take_more odd_succ cnt_append cnt_one)
theorem recs_at {w : World} {A : Option Addr} {n : Nat} {xs : List (List S46)} (h : Kd.C (Kd.slice 46 k46) w A n xs) (i : Nat) (hi : i < n) : ∃ ad Ai c l, A = some ad ∧ w.cell? (ad.add i) = some (.slice Ai l.length c) ∧ l.length ≤ c ∧ k46.C w Ai l.length l := by
  obtain ⟨ad, c, e, _, hK, hc0⟩ := Kd.C_get h ([] : List S46) (i : Int) (by omega) (by omega)
  have hc : ∀ j u, c[j]? = some u → w.cell? (ad.add (i * 1 + j)) = some u := hc0
  obtain ⟨A0, c0, rfl, l0, g0⟩ := hK
  exact ⟨ad, A0, c0, _, e, by have hq := hc 0 _ rfl; rwa [Nat.mul_one, Nat.add_zero] at hq, l0, g0⟩
def polyglotlaw48_FlipsTurns.f (l0 : List (List S46)) : Option Bool := some true
set_option maxRecDepth 100000 in
set_option maxHeartbeats 8000000 in
theorem turns_in (A0 : Option Addr) (c0 : Nat) (l0 : List (List S46)) (w : World) (hr0 : Kd.C (Kd.slice 46 k46) w A0 l0.length l0) (h12 : l0.length ≤ 12) :
    Calls Try.prog 3 #[.slice A0 l0.length c0] w fun e w' => e = .returned (.bool true) ∧ Below w.heap.size w w' := by
  have HR := Aside0.mk hr0
  have H12 := Aside0.mk h12
  have d4 : decide ((12 : Int) < l0.length) = false := decide_eq_false (by omega)
  have hnot : ∀ (x : Bool) (w : World), (Op.unary .not (.bool x)).run Try.prog w = .ok (.bool (!x)) w := fun _ _ => rfl
  clear hr0 h12
  go_enter Try.func3, Try.ntmps3
  go_wp2_with fail
  refine (new_log w w.heap.size (Nat.le_refl _)).mono ?_
  rintro e w1 ⟨g, rfl, hI1, hg1, hB1⟩
  have HS1 := Aside0.mk (show Stand w w1 g (3 * 0) from ⟨_, _, hI1, hB1, Nat.le_refl _, Alt.nil⟩)
  clear hI1 hg1 hB1
  go_wp2_with fail
  go_loopg [4] (l0.length + 1) (fun kq v4 w' => ∃ i : Nat, v4 = .int .i64 (i : Int) ∧ Aside0 (i ≤ l0.length) ∧ Aside0 (kq + i = l0.length + 1) ∧ Aside0 (Stand w w' g (3 * i)))
  case atStart => exact ⟨0, rfl, ⟨Nat.zero_le _⟩, ⟨by omega⟩, HS1⟩
  case round =>
    obtain ⟨i, rfl, hi, hk, hS⟩ := hrel
    clear HS1
    rcases Nat.lt_or_ge i l0.length with hlt | hge
    · obtain ⟨gk, rfl⟩ : ∃ m, gk = m + 1 := ⟨gk - 1, by have := hk.out; omega⟩
      obtain ⟨ad, Ai, ci, l, rfl, hx, hlc, hC⟩ := recs_at HR.out i hlt
      have hb := hS.out.below
      have hx0 := hx
      replace hx := (hb.cell (World.block_lt_of_cell? w _ hx)).trans hx
      obtain ⟨b, h20, hF⟩ := few_is Ai ci l wr (Kd.C_below hC hb) hlc
      have HF := Lib.hid hF
      have HC := Aside0.mk (And.intro hC hlc)
      have H20 := Aside0.mk h20
      have d0 : decide (i < l0.length) = true := decide_eq_true hlt
      have i0 : 0 ≤ (i : Int) := by omega
      have i1 : (i : Int) < l0.length := by omega
      have HX := Aside0.mk (And.intro (show w.cell? (ad.add i) = some (.slice Ai l.length ci) from hx0) hlt)
      clear hF hb hC h20 hlc hlt hi hx0
      go_wp2_with fail
      refine HF.out.mono ?_
      rintro e w2 ⟨rfl, hB2⟩
      have hS2 := Aside0.mk (hS.out.step hB2)
      clear hS HF hB2 hx
      have hx := (hS2.out.below.cell (World.block_lt_of_cell? w _ HX.out.1)).trans HX.out.1
      cases b with
      | false =>
        have HA := Lib.hid (awake_is w2)
        go_wp2_with fail
        refine HA.out.mono ?_
        rintro e w3 ⟨rfl, hB⟩
        have HB := Aside0.mk (hS2.out.below.trans (Flips.below_le hB hS2.out.below.size))
        clear hB
        go_wp2_with fail
        go_ret
        exact ⟨rfl, HB.out⟩
      | true =>
        go_wp2_with fail
        refine (stand_look w g (3 * i) _ Ai l.length ci (openB l) w2 hS2.out (by have := HX.out.2; have := H12.out; omega) (opens_is Ai ci l w w2 g (by have := H20.out trivial; omega) HC.out.1 HC.out.2 hS2.out.below)).mono ?_
        rintro e w3 ⟨y, rfl, hS3⟩
        have hS3 := Aside0.mk (show Stand w w3 g (3 * (i + 1)) from hS3)
        clear hS2
        go_wp2_with fail
        go_roundg gk
        case measure => omega
        case rel => exact ⟨i + 1, by first | rfl | (congr 1; have := HX.out; have := H12.out; unfold wrap64; omega), ⟨by have := HX.out; omega⟩, ⟨by have := hk.out; omega⟩, hS3⟩
    · have d0 : decide (i < l0.length) = false := decide_eq_false (by omega)
      have hN := Aside0.mk (show 3 * i ≤ 100 by have := hi.out; have := H12.out; omega)
      clear hge hi hk
      go_wp2_with fail
      refine (told_all w g (3 * i) wr hS.out (by have := hN.out; omega)).mono ?_
      rintro e w2 ⟨y, v, L, rfl, hT, hL, hAlt⟩
      obtain ⟨Ay, cy, rfl⟩ := Kd.R_slice hT.row
      have HT := Aside0.mk hT
      have HL := Aside0.mk (And.intro (Nat.le_trans hL hN.out) hAlt)
      clear hS hT hL hAlt d0
      go_wp2_with fail
      go_loopg [6, 7, 8, 9] 4 (fun kq v6 v7 v8 v9 w' => ∃ q : Nat, v6 = .int .i64 (q : Int) ∧ Aside0 (1 ≤ q ∧ q ≤ 4 ∧ kq + q = 5) ∧ Aside0 (AllTold w w' g v (.slice Ay L.length cy) L))
      case atStart => exact ⟨1, rfl, ⟨by omega⟩, HT⟩
      case round =>
        obtain ⟨q, rfl, hq, hT⟩ := hrel
        clear HT
        rcases Nat.lt_or_ge q 4 with hlt | hge
        · have d3 : decide (q ≤ 3) = true := decide_eq_true (by omega)
          have d3' : decide ((q : Int) ≤ 3) = true := decide_eq_true (by omega)
          obtain ⟨gq, rfl⟩ : ∃ m, gk = m + 1 := ⟨gk - 1, by have := hq.out; omega⟩
          have hq := Aside0.mk (And.intro hq.out hlt)
          clear hlt
          go_wp2_with fail
          go_loopg [7, 8, 9] (L.length + 1) (fun kq v7 v8 v9 w' => ∃ m : Nat, v7 = .bool (!odd (cnt (L.take m) q)) ∧ v8 = .int .i64 (cnt (L.take m) q : Nat) ∧ v9 = .int .i64 (m : Int) ∧ Aside0 (m ≤ L.length ∧ kq + m = L.length + 1) ∧ Aside0 (AllTold w w' g v (.slice Ay L.length cy) L))
          case atStart => exact ⟨0, rfl, rfl, rfl, ⟨⟨Nat.zero_le _, by omega⟩⟩, hT⟩
          case round =>
            obtain ⟨m, rfl, rfl, rfl, hm, hT2⟩ := hrel
            clear hT
            rcases Nat.lt_or_ge m L.length with hlt | hge
            · have dm : decide (m < L.length) = true := decide_eq_true hlt
              have m0 : 0 ≤ (m : Int) := by omega
              have m1 : (m : Int) < L.length := by omega
              obtain ⟨gk, rfl⟩ : ∃ m', gk = m' + 1 := ⟨gk - 1, by have := hm.out; omega⟩
              obtain ⟨ad, rfl, p0, p1, p2⟩ := at_F (Kd.R_reads' hT2.out.row).2.2 m hlt
              have hx := HL.out.2 m hlt
              have ht := take_more L m hlt
              have hc : cnt (L.take (m + 1)) q = cnt (L.take m) q + if (rdF L m).g = q then 1 else 0 := by rw [ht, cnt_append, cnt_one]
              generalize rdF L m = x at hx hc p0 p1 p2
              have hm := Aside0.mk (And.intro hm.out hlt)
              clear ht hlt p0
              by_cases hg : x.g = q
              · rw [if_pos hg] at hc
                rw [hg] at hx
                rw [hx] at p2
                have ho := odd_succ (cnt (L.take m) q)
                rw [← hc] at ho
                have hcl := Aside0.mk (Nat.le_trans (Flips.cnt_le (L.take m) q) (by rw [List.length_take]; exact Nat.min_le_right _ _))
                have HC := Aside0.mk hc
                have HO := Aside0.mk ho
                clear hc ho hx
                generalize odd (cnt (L.take m) q) = d at p2 HO ⊢
                generalize cnt (L.take m) q = cc at HC hcl ⊢
                have hccL := Aside0.mk (show cc ≤ 100 from Nat.le_trans hcl.out HL.out.1)
                go_wp2_with fail
                go_roundg gk
                case measure => omega
                case rel =>
                  refine ⟨m + 1, ?_, ?_, by first | rfl | (congr 1; have := hm.out; have := HL.out.1; unfold wrap64; omega), ⟨by have := hm.out; omega⟩, hT2⟩
                  · rw [HO.out, Bool.not_not]
                  · rw [HC.out]; congr 1; have := hccL.out; unfold wrap64; omega
              · replace hc : cnt (L.take (m + 1)) q = cnt (L.take m) q := by rw [hc, if_neg hg]; rfl
                have HC := Aside0.mk hc
                clear hc hx
                go_wp2_with fail
                go_roundg gk
                case measure => omega
                case rel => exact ⟨m + 1, by rw [HC.out], by rw [HC.out], by first | rfl | (congr 1; have := hm.out; have := HL.out.1; unfold wrap64; omega), ⟨by have := hm.out; omega⟩, hT2⟩
            · have dm : decide (m < L.length) = false := decide_eq_false (by omega)
              have hmL : m = L.length := by have := hm.out; omega
              subst hmL
              have hcq : Flips.count L q = cnt L q := by unfold Flips.count; rw [if_pos (by have := hq.out; omega)]
              have HON := Lib.hid (on_is w.heap.size g v L L q wr hT2.out.is)
              have HCO := Lib.hid (count_is w.heap.size g v L L q wr hT2.out.is)
              rw [hcq] at HON HCO
              have hod : odd (cnt L q) = (((cnt L q : Nat) : Int).tmod 2 == 1) := (Flips.odd_is _).symm
              rw [hod] at HON
              have hcl := Flips.cnt_le L q
              rw [List.take_length, hod]
              clear hm hge hcq hod
              generalize hNN : ((cnt L q : Nat) : Int) = NN at HON HCO ⊢
              clear hNN hcl
              go_wp2_with fail
              refine HON.out.mono ?_
              rintro e w3 ⟨rfl, rfl⟩
              go_wp2_with fail
              refine HCO.out.mono ?_
              rintro e w3 ⟨rfl, rfl⟩
              go_wp2_with fail
              go_roundg gq
              case measure => omega
              case rel => exact ⟨q + 1, by first | rfl | (congr 1; have := hq.out; unfold wrap64; omega), ⟨by have := hq.out; omega⟩, hT2⟩
        · have d3 : decide (q ≤ 3) = false := decide_eq_false (by omega)
          have d3' : decide ((q : Int) ≤ 3) = false := decide_eq_false (by omega)
          have HA := Lib.hid (awake_is wr)
          have hB := hT.out.below
          clear hge
          go_wp2_with fail
          refine HA.out.mono ?_
          rintro e w3 ⟨rfl, hB3⟩
          have HB := Aside0.mk (hB.trans (Flips.below_le hB3 hB.size))
          clear hB hB3
          go_wp2_with fail
          go_ret
          exact ⟨rfl, HB.out⟩
theorem polyglotlaw48_FlipsTurns.calls (A0 : Option Addr) (c0 : Nat) (l0 : List (List S46)) (r : Bool) (w : World) (hr0 : Kd.C (Kd.slice 46 k46) w A0 l0.length l0) (hc0 : l0.length ≤ c0) (h : polyglotlaw48_FlipsTurns.f l0 = some r) :
    Calls Try.prog 3 #[.slice A0 l0.length c0] w fun e w' => e = .returned (.bool r) ∧ Below w.heap.size w w' := by
  obtain rfl := Option.some.inj h
  by_cases h12 : l0.length ≤ 12
  · exact turns_in A0 c0 l0 w hr0 h12
  · have d4 : decide ((12 : Int) < l0.length) = true := decide_eq_true (by omega)
    have HA := Lib.hid (awake_is w)
    clear hr0 hc0 h h12
    go_enter Try.func3, Try.ntmps3
    go_wp2_with fail
    refine HA.out.mono ?_
    rintro e w1 ⟨rfl, hB⟩
    have HB := Aside0.mk hB
    clear hB
    go_wp2_with fail
    go_ret
    exact ⟨rfl, HB.out⟩


/-- THE ONE PURE STATEMENT of polyglotlaw48_FlipsTurns: yours. -/
def polyglotlaw48_FlipsTurns.Pure : Prop := ∀ (l0 : List (List (S46))), l0.length ≤ maxLen → (∀ v ∈ l0, (v.length ≤ maxLen ∧ ∀ v1 ∈ v, ((Lit.int .i64 v1.f0).wf = true ∧ (Lit.int .i64 v1.f1).wf = true ∧ (Lit.int .i64 v1.f2).wf = true ∧ ((Lit.int .i64 v1.f3.f0).wf = true ∧ (Lit.int .i64 v1.f3.f1).wf = true) ∧ True ∧ (v1.f5.length ≤ maxLen ∧ ∀ v5 ∈ v1.f5, ((Lit.int .i64 v5.f0).wf = true ∧ (v5.f1.length ≤ maxLen ∧ ∀ v5_ ∈ v5.f1, (Lit.int .u8 v5_).wf = true)))))) → polyglotlaw48_FlipsTurns.f l0 = some true

end Go.Proofs.Ytkhjeglppnibhaa.PFt
