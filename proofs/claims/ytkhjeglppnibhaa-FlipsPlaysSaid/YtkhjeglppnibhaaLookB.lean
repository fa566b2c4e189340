/- A look, walked. -/
import Derived.Test.YtkhjeglppnibhaaLook
namespace Go.Proofs.Ytkhjeglppnibhaa.Flips
open Go.RowKit Go.Proofs.YtkhjeglppnibhaaW.PrintWords Go.Proofs.YtkhjeglppnibhaaW.PrintLast Go.Proofs.YtkhjeglppnibhaaW.PrintMore
set_option linter.unusedVariables false
set_option linter.unusedSimpArgs false
theorem kF_KM {w w1 : World} {base : Nat} {ok : Nat → Prop} (x : Fl) (cs : List Value) (h : kF.K w x cs) : kF.M w1 base ok x cs := by
  obtain rfl := kF_open h
  exact kF_mkM _ _ _ _
/-- What gate.Open does at these records. -/
def Opens (w : World) (g base : Nat) (A : Option Addr) (n c : Nat) (o : Int → Bool) : Prop :=
  ∀ (k : Int) (W : World), 1 ≤ k → k ≤ 3 → KeepBut w W g none → Below base w W → Calls Try.prog 12 #[.slice A n c, .int .i64 k] W fun e w' => e = .returned (.bool (o k)) ∧ Below W.heap.size W w'
set_option maxRecDepth 100000 in
set_option maxHeartbeats 4000000 in
theorem look (g base : Nat) (v : Value) (l : List Fl) (t : Int) (A : Option Addr) (n c : Nat) (o : Int → Bool) (w : World) (h : Is w base g v l l) (hl : l.length ≤ 1000)
    (hO : Opens w g base A n c o) :
    Calls Try.prog 8 #[.pointer (some ⟨g, 0, none⟩), .slice A n c, .int .i64 t] w fun e w' => ∃ y v', e = .returned y ∧ Left w w' base g v v' (l ++ news l o t 3) (l ++ news l o t 3) ∧ Kd.R kF 32 w' w.heap.size (fun k => some k ≠ v'.ownBlock) y (news l o t 3) := by
  have HV := Aside0.mk (fun k hk => Kd.R_lt h.hR k hk)
  obtain ⟨Av, cv, rfl⟩ := Kd.R_slice h.hR
  have HI := Aside0.mk h
  have HL := Aside0.mk hl
  clear h hl
  have HO := Lib.hid hO
  clear hO
  go_enter Try.func8, Try.ntmps8
  go_wp2_with fail
  go_loopg [7, 13] 4 (fun kq v7 v13 w' => ∃ j : Nat, v13 = .int .i64 (j : Int) ∧ Aside0 (j ≤ 3) ∧ Aside0 (kq + j = 4) ∧ Aside0 (Mid w w' base g (.slice Av l.length cv) l (news l o t j) (news l o t j) v7))
  case atStart => exact ⟨0, rfl, ⟨Nat.zero_le _⟩, ⟨rfl⟩, ⟨Mid.new HI.out⟩⟩
  case round =>
    obtain ⟨j, rfl, hj, hk, hM⟩ := hrel
    have hk := hk.out
    obtain ⟨A7, c7, rfl⟩ := Kd.R_slice hM.out.out
    rcases Nat.lt_or_ge j 3 with hlt | hge
    · obtain ⟨gk, rfl⟩ : ∃ m, gk = m + 1 := ⟨gk - 1, by omega⟩
      have d3 : decide ((j : Int) < 3) = true := decide_eq_true (by omega)
      have hw1 : wrap64 ((j : Int) + 1) = (j : Int) + 1 := by unfold wrap64; omega
      have HJ := Aside0.mk hlt
      clear hlt hj
      go_wp2_with fail
      refine (HO.out _ _ (by omega) (by have := HJ.out; omega) hM.out.keep hM.out.below).mono ?_
      rintro e w2 ⟨rfl, hB⟩
      have hM2 := Aside0.mk (hM.out.step hB)
      have hc : count (l ++ news l o t j) ((j : Int) + 1) = cnt l ((j : Int) + 1) := by
        unfold count
        rw [if_pos (by have := HJ.out; omega), cnt_append, news_cnt l o t j _ (by omega)]
        omega
      have HON := Lib.hid (on_is base g _ l _ ((j : Int) + 1) w2 hM2.out.is)
      rw [hc] at HON
      have HE := Aside0.mk (show news l o t (j + 1) = news l o t j ++ (if (o ((j : Int) + 1) != odd (cnt l ((j : Int) + 1))) = true then [⟨t, (j : Int) + 1, o ((j : Int) + 1)⟩] else []) from rfl)
      generalize o ((j : Int) + 1) = b at HE ⊢
      obtain ⟨d, hd⟩ : ∃ d, odd (cnt l ((j : Int) + 1)) = d := ⟨_, rfl⟩
      rw [hd] at HON HE
      clear hB hM hd hc
      go_wp2_with fail
      refine HON.out.mono ?_
      rintro e w3 ⟨rfl, rfl⟩
      by_cases hbd : b = d
      · subst hbd
        have hbb : (!b == b) = false := by simp
        have HE := Aside0.mk (show news l o t (j + 1) = news l o t j by rw [HE.out]; simp)
        have HM3 := Aside0.mk (show Mid w w2 base g (.slice Av l.length cv) l (news l o t (j + 1)) (news l o t (j + 1)) (.slice A7 (news l o t j).length c7) by rw [HE.out]; exact hM2.out)
        clear hM2
        go_wp2_with fail
        go_roundg gk
        case measure => omega
        case rel => exact ⟨j + 1, by first | rfl | (congr 1; unfold wrap64; omega), ⟨by have := HJ.out; omega⟩, ⟨by omega⟩, HM3⟩
      · have hbb : (!b == d) = true := by simp [hbd]
        have j3 : (j : Int) < 3 := by have := HJ.out; omega
        have j0 : 0 ≤ (j : Int) := by omega
        clear hbd
        go_wp2_with fail
        have HE := Aside0.mk (show news l o t (j + 1) = news l o t j ++ [⟨t, (j : Int) + 1, b⟩] by rw [HE.out, if_pos (by simpa using hbb)])
        have HJ3 := HJ.out
        have hcl := cnt_le (l ++ news l o t j) ((j : Int) + 1)
        have hnl := news_len l o t j
        rw [List.length_append] at hcl
        rw [show (1 + j) = j + 1 from Nat.add_comm _ _]
        refine (add_at ⟨g, j + 1, none⟩ (cnt (l ++ news l o t j) ((j : Int) + 1) : Nat) w2 (hM2.out.is.cell j HJ3) (blk_frozen hM2.out.is.hg (j + 1)) (by omega) (by have := HL.out; omega)).mono ?_
        rintro e w3 ⟨rfl, rfl⟩
        have hM3 := Aside0.mk (hM2.out.count j HJ3 ⟨t, (j : Int) + 1, b⟩ rfl)
        generalize w2.setCell ⟨g, j + 1, none⟩ (.int .i64 ((cnt (l ++ news l o t j) ((j : Int) + 1) : Nat) + 1)) = w4 at hM3 ⊢
        have hsz := Aside0.mk hM3.out.keep.1
        have hll := Aside0.mk (show (news l o t j).length ≤ 3 by omega)
        clear hM2 HON hcl hnl
        go_wp2_with (first
         | ((with_reducible refine gate_builtin (b := .append) (xs := #[.tmp 32, .tmp 37]) rfl ?_); at_builtin; go_loud (refine Kd.R_append kF (w0 := w4) w.heap.size rfl (.tmp 32) (.tmp 37) 28 32 (.agg #[(.int .i64 0), (.int .i64 0), (.bool false)]) 24 rfl Try.underlying28 infoF rfl (by decide) (by omega) (.slice A7 (news l o t j).length c7) (news l o t j) (⟨t, (j : Int) + 1, b⟩ : Fl) [.int .i64 t, .int .i64 ((j : Int) + 1), .bool b] (fun _ => True) (fun _ => False) rfl rfl ?aP (fun _ hk => hk.elim) ?aF ?aO (Below.refl _ _) ?aS ?aL ?_; (case aP => exact kF_mkM _ _ _ (⟨t, (j : Int) + 1, b⟩ : Fl)); (case aF => exact (fun _ _ => trivial)); (case aO => exact hM3.out.out); (case aS => exact hsz.out); (case aL => have := hll.out; omega); intro v1 w5 ho hb1 hg1 hat; rw [← HE.out] at ho; have HM4 := Aside0.mk (hM3.out.put ho hg1); clear ho hb1 hg1 hat)))
        rw [← HE.out] at HM4
        go_roundg gk
        case measure => omega
        case rel => exact ⟨j + 1, by first | rfl | (congr 1; unfold wrap64; omega), ⟨by have := HJ.out; omega⟩, ⟨by omega⟩, HM4⟩
    · have d3 : decide ((j : Int) < 3) = false := decide_eq_false (by omega)
      have hj3 := Aside0.mk (show j = 3 by have := hj.out; omega)
      have c0 := (blk_cell hM.out.is.hg 0).trans (show _ = some (.slice Av l.length cv) from rfl)
      have z0 := blk_frozen hM.out.is.hg 0
      have hgl := blk_lt hM.out.is.hg
      have hle := Aside0.mk (show l.length + (news l o t j).length ≤ 2000 by have := HL.out; have := news_len l o t j; have := hj.out; omega)
      clear hj hge
      go_wp2_with (first
       | ((with_reducible refine gate_builtin (b := .append) (xs := #[.tmp 44, .tmp 45]) rfl ?_); at_builtin; go_loud (refine Kd.R_append_rows kF (w0 := wr) base rfl (.tmp 44) (.tmp 45) 28 32 (.agg #[(.int .i64 0), (.int .i64 0), (.bool false)]) 24 rfl Try.underlying28 infoF rfl (by decide) (by omega) (.slice Av l.length cv) l (news l o t j) _ _ _ (fun k => k ≠ g) (fun _ => False) rfl rfl ?aO ?aR (kF_KM (w := wr)) (fun _ h => h.elim) ?aF ?aB ?aS ?aL ?_; (case aR => exact (Kd.R_reads' hM.out.out).2.2); (case aB => exact Below.refl _ _); (case aF => intro k hk; omega); (case aO => exact hM.out.is.hR); (case aS => have := hM.out.is.le; omega); (case aL => have := hle.out; omega); intro v1 w1 ho hb1 hg1 hat; have hG1 := blk_grown hM.out.is.hg hg1 (Kd.R_ne hM.out.is.hR hM.out.is.hg (by decide)); have c1' := (blk_cell hG1 0).trans (show _ = some (.slice Av l.length cv) from rfl); have z1' := blk_frozen hG1 0; have HW := Aside0.mk (Mid.end_ HI.out hM.out ho hb1 hg1 hat); have HO1 := Aside0.mk ho; clear hG1 ho hb1 hg1 hat; obtain ⟨An, cn, rfl⟩ := Kd.R_slice HO1.out; clear HO1)))
      have e3 := hj3.out
      subst e3
      go_ret
      simp only [List.length_append] at HW
      exact ⟨_, _, rfl, HW.out.1, HW.out.2⟩
end Go.Proofs.Ytkhjeglppnibhaa.Flips
