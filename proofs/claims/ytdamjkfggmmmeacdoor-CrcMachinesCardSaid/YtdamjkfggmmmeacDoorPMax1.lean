-- WRITTEN BY A PROGRAM OF THIS SESSION (a print of its own, with given functions). Not trusted: Lean checks it.
import Derived.Test.YtdamjkfggmmmeacDoorPMax0
namespace Go.Proofs.YtdamjkfggmmmeacDoor.PMa
open Go.RowKit Go.Proofs.YtdamjkfggmmmeacDoorW.PrintWords Go.Proofs.YtdamjkfggmmmeacDoorW.PrintLast Go.Proofs.YtdamjkfggmmmeacDoorW.PrintMore
attribute [local go_sem] max2_int min2_int max_two min_two max_three min_three max_four min_four   -- for this text's walks alone
set_option linter.unusedVariables false
set_option linter.unusedSimpArgs false

/-! ### polyglotlaw03_CrcMachines: function 3: BY HAND -/
def polyglotlaw03_CrcMachines.f (l0 : List (List Int)) : Option Bool := if (l0.all fun p => p.all fun x => decide (0 ≤ x ∧ x ≤ 255)) = true then some true else none
set_option maxRecDepth 100000 in
set_option maxHeartbeats 8000000 in
theorem mach_in (A0 : Option Addr) (c0 : Nat) (l0 : List (List Int)) (w : World) (hr0 : Kd.C (Kd.slice 5 (Kd.int .u8)) w A0 l0.length l0) (hL : Crc.Laid w) (hby : ∀ p ∈ l0, ∀ x ∈ p, 0 ≤ x ∧ x ≤ 255) (h8 : l0.length ≤ 8) :
    Calls Tryd.prog 3 #[.slice A0 l0.length c0] w fun e w' => e = .returned (.bool true) ∧ Below w.heap.size w w' := by
  have HR := Aside0.mk hr0
  have H8 := Aside0.mk h8
  have HL := Aside0.mk hL
  have HY := Aside0.mk hby
  have d8 : decide ((8 : Int) < l0.length) = false := decide_eq_false (by omega)
  have hnot : ∀ (x : Bool) (w : World), (Op.unary .not (.bool x)).run Tryd.prog w = .ok (.bool (!x)) w := fun _ _ => rfl
  clear hr0 h8 hL hby
  go_enter Tryd.func3, Tryd.ntmps3
  go_wp2_with fail
  refine (Mach.new_mach w).mono ?_
  rintro e w1 ⟨rfl, hI, hz, hB⟩
  have HI := Aside0.mk hI
  have HB := Aside0.mk hB
  have HZ := Aside0.mk hz
  clear hI hB hz
  go_wp2_with fail
  refine (Mach.built_is w.heap.size 0 false w1 HI.out).mono ?_
  rintro e w' ⟨rfl, rfl⟩
  go_wp2_with fail
  refine (Mach.sums_is w.heap.size 0 false w1 HI.out).mono ?_
  rintro e w' ⟨rfl, rfl⟩
  go_wp2_with fail
  go_loopg [4] (l0.length + 1) (fun kq v4 w' => ∃ (i : Nat) (bt : Bool), v4 = .int .i64 (i : Int) ∧ Aside0 (i ≤ l0.length) ∧ Aside0 (kq + i = l0.length + 1) ∧ Aside0 (Mach.Is w' w.heap.size bt i) ∧ Aside0 (Below w.heap.size w w') ∧ Aside0 (w.heap.size < w'.heap.size))
  case atStart => exact ⟨0, false, rfl, ⟨Nat.zero_le _⟩, ⟨by omega⟩, HI, HB, ⟨by have := HZ.out; omega⟩⟩
  case round =>
    obtain ⟨i, bt, rfl, hi, hk, hI, hB, hZ⟩ := hrel
    have HLW := Aside0.mk (HL.out.below hB.out HL.out.lt)
    clear HI HB HZ
    rcases Nat.lt_or_ge i l0.length with hlt | hge
    · obtain ⟨gk, rfl⟩ : ∃ m, gk = m + 1 := ⟨gk - 1, by have := hk.out; omega⟩
      obtain ⟨ad, cc, rfl, hcl, hK, hcell⟩ := Kd.C_get HR.out ([] : List Int) (i : Int) (by omega) (by omega)
      obtain ⟨Ar, cr, rfl, hrc, hrC⟩ := hK
      have hx := hcell 0 _ rfl
      have hq : (l0.getD (i : Int).toNat []) = l0[i] := by simp [hlt]
      rw [hq] at hx hrc hrC
      simp only [Int.toNat_natCast, Kd.slice, Kd.scalar, Nat.mul_one, Nat.add_zero] at hx
      have HY1 := Aside0.mk (HY.out l0[i] (List.getElem_mem hlt))
      obtain ⟨p, hp⟩ : ∃ p, p = l0[i] := ⟨_, rfl⟩
      rw [← hp] at hx hrc hrC HY1
      have HX := Aside0.mk hx
      have hx1 := (hB.out.cell (World.block_lt_of_cell? w _ hx)).trans hx
      have HC := Aside0.mk hrC
      have HLT := Aside0.mk hlt
      have d0 : decide (i < l0.length) = true := decide_eq_true hlt
      have di : decide (0 ≤ (i : Int)) = true := decide_eq_true (by omega)
      clear hx hcell hcl hq hp hrc hlt hrC
      by_cases h100 : 100 < p.length
      · have r100 : decide ((100 : Int) < p.length) = true := decide_eq_true (by omega)
        have HA := Lib.hid (Crc.awake_is wr HLW.out)
        clear h100
        go_wp2_with fail
        all_goals (first | (exfalso; have := HLT.out; omega) | skip)
        refine HA.out.mono ?_
        rintro e w2 ⟨rfl, hB2⟩
        have HB2 := Aside0.mk (hB.out.trans (Mach.below_le hB2 hB.out.size))
        clear hB2
        go_wp2_with fail
        go_ret
        exact ⟨rfl, HB2.out⟩
      · have r100 : decide ((100 : Int) < p.length) = false := decide_eq_false (by omega)
        clear h100
        go_wp2_with fail
        all_goals (first | (exfalso; have := HLT.out; omega) | skip)
        have HC1 := Aside0.mk (Kd.C_below HC.out hB.out)
        have HA1 : Aside0 (0 < p.length → ∀ a, Ar = some a → a.block ≠ w.heap.size) := ⟨fun hp a ha => by
          obtain ⟨_, _, h3⟩ := HC.out
          obtain ⟨a', ha', hx⟩ := h3 hp
          rw [ha] at ha'
          obtain rfl := Option.some.inj ha'
          obtain ⟨cs, q1, q2, q3⟩ := hx 0 _ (List.getElem?_eq_getElem hp)
          obtain rfl : cs = [Value.int .u8 p[0]] := q2
          have := World.block_lt_of_cell? w _ (q3 0 _ rfl)
          rw [add_block] at this
          omega⟩
        have hxd := hx1
        rw [← World.cell?_drew] at hxd
        have HXD := Aside0.mk hxd
        clear hxd
        have e1 : (Crc.sumF p != Crc.sumF p) = false := by simp
        have e2 : ((1 : Int) != 1) = false := rfl
        have e4 : (((i : Int) + 1) != IntKind.i64.wrap ((i : Int) + 1)) = false := by rw [i64_w, show wrap64 ((i : Int) + 1) = (i : Int) + 1 by unfold wrap64; have := hi.out; have := H8.out; omega]; simp
        have e3 : (((i : Int) + 1) != wrap64 ((i : Int) + 1)) = false := by rw [show wrap64 ((i : Int) + 1) = (i : Int) + 1 by unfold wrap64; have := hi.out; have := H8.out; omega]; simp
        go_region_law (first
         | (go_simp; go_at_call 8; refine (Mach.sum_mach w.heap.size i bt Ar p cr _ (show Mach.Is wr.drew w.heap.size bt i from hI.out) (by have := hi.out; have := H8.out; omega) (Kd.C_drew HC1.out) HA1.out HY1.out).mono ?_; rintro e w2 ⟨rfl, ho, hI2⟩; have HO2 := Aside0.mk ho; have HI2 := Aside0.mk hI2; have HB2 := Aside0.mk ((below_drew hB.out).trans (ho.below (Nat.le_refl _))); have HZ2 := Aside0.mk (show w.heap.size < w2.heap.size by have h1 := ho.size; have h2 := hZ.out; simp at h1; omega); have hx2 := ((HO2.out.below (Nat.le_refl _)).cell (World.block_lt_of_cell? w _ HX.out)).trans HXD.out; clear ho hI2)
         | (go_simp; go_at_call 9; refine (Crc.sum_is Ar p cr _ (Kd.C_below HC.out HB2.out) HY1.out).mono ?_; rintro e w' ⟨rfl, rfl⟩)
         | (go_simp; go_at_call 6; refine (Mach.built_is w.heap.size (i + 1) true _ HI2.out).mono ?_; rintro e w' ⟨rfl, rfl⟩)
         | (go_simp; go_at_call 7; refine (Mach.sums_is w.heap.size (i + 1) true _ HI2.out).mono ?_; rintro e w' ⟨rfl, rfl⟩))
        all_goals
          clear HXD hx2 hI HC1 HLW
          go_wp2
          go_roundg gk
          case measure => omega
          case rel => exact ⟨i + 1, true, by first | rfl | (congr 1; have := hi.out; have := H8.out; unfold wrap64; omega), ⟨by have := HLT.out; omega⟩, ⟨by have := hk.out; omega⟩, HI2, HB2, HZ2⟩
    · have d0 : decide (i < l0.length) = false := decide_eq_false (by omega)
      have HA := Lib.hid (Crc.awake_is wr HLW.out)
      clear hge
      go_wp2_with fail
      refine HA.out.mono ?_
      rintro e w2 ⟨rfl, hB2⟩
      have HB2 := Aside0.mk (hB.out.trans (Mach.below_le hB2 hB.out.size))
      clear hB2
      go_wp2_with fail
      go_ret
      exact ⟨rfl, HB2.out⟩
theorem polyglotlaw03_CrcMachines.calls (A0 : Option Addr) (c0 : Nat) (l0 : List (List Int)) (r : Bool) (w : World) (hr0 : Kd.C (Kd.slice 5 (Kd.int .u8)) w A0 l0.length l0) (hc0 : l0.length ≤ c0) (hrG : Kd.C (Kd.int .u32) w (some ⟨0, 0, none⟩) Crc.tabL.length Crc.tabL) (h : polyglotlaw03_CrcMachines.f l0 = some r) :
    Calls Tryd.prog 3 #[.slice A0 l0.length c0] w fun e w' => e = .returned (.bool r) ∧ Below w.heap.size w w' := by
  unfold polyglotlaw03_CrcMachines.f at h
  split at h
  · rename_i hall
    obtain rfl := Option.some.inj h
    have hby : ∀ p ∈ l0, ∀ x ∈ p, 0 ≤ x ∧ x ≤ 255 := fun p hp x hx => by simpa using List.all_eq_true.1 (List.all_eq_true.1 hall p hp) x hx
    by_cases h8 : l0.length ≤ 8
    · exact mach_in A0 c0 l0 w hr0 (Crc.Laid.of_C hrG) hby h8
    · have d8 : decide ((8 : Int) < l0.length) = true := decide_eq_true (by omega)
      have HA := Lib.hid (Crc.awake_is w (Crc.Laid.of_C hrG))
      clear hr0 hc0 h h8 hby hrG
      go_enter Tryd.func3, Tryd.ntmps3
      go_wp2_with fail
      refine HA.out.mono ?_
      rintro e w1 ⟨rfl, hB⟩
      have HB := Aside0.mk hB
      clear hB
      go_wp2_with fail
      go_ret
      exact ⟨rfl, HB.out⟩
  · cases h


/-- THE ONE PURE STATEMENT of polyglotlaw03_CrcMachines: yours. -/
def polyglotlaw03_CrcMachines.Pure : Prop := ∀ (l0 : List (List Int)), l0.length ≤ maxLen → (∀ v ∈ l0, (v.length ≤ maxLen ∧ ∀ v1 ∈ v, (Lit.int .u8 v1).wf = true)) → polyglotlaw03_CrcMachines.f l0 = some true

end Go.Proofs.YtdamjkfggmmmeacDoor.PMa
