/- What a machine's methods (chapter 3) do to memory: its table is built once, by a sync.Once. -/
import Derived.Test.YtdamjkfggmmmeacDoorOnce
import Derived.Test.YtdamjkfggmmmeacDoorRef3
import Derived.Deep.RegionWith
import Derived.Deep.RegionLaw
namespace Go.Proofs.YtdamjkfggmmmeacDoor.Mach
open Go.RowKit Go.Proofs.YtdamjkfggmmmeacDoorW.PrintWords Go.Proofs.YtdamjkfggmmmeacDoorW.PrintLast Go.Proofs.YtdamjkfggmmmeacDoorW.PrintMore Go.Proofs.YtdamjkfggmmmeacDoor.Once
open Crc (tabI takeF by8 sumF byte_int idx_lt takeF_snoc ones ones_int last_int)
open CrcMath (takes run bits4 bits8 tab nib_run)
set_option linter.unusedVariables false
set_option linter.unusedSimpArgs false
theorem add_at (a : Addr) (x : Int) (w : World) (hc : w.cell? a = some (.int .i64 x)) (hz : w.frozen? a = false) (h0 : 0 ≤ x) (h1 : x < 4611686018427387904) :
    Calls Tryd.prog 14 #[.pointer (some a), .int .i64 1] w fun e w' => e = .returned (.int .i64 (x + 1)) ∧ w.setCell a (.int .i64 (x + 1)) = w' := by
  have hadd := run_call_add (P := Tryd.prog) Tryd.func20 (by kernel_rfl) (by kernel_rfl) (by kernel_rfl) .i64 (by kernel_rfl) (y := 1) (s := x + 1) hc hz (by simp [go_sem, IntKind.wrap]; omega)
  go_enter Tryd.func14, Tryd.ntmps14
  go_wp2
  go_ret
  exact ⟨rfl, rfl⟩
theorem load_at (a : Addr) (x : Int) (w : World) (hc : w.cell? a = some (.int .i64 x)) :
    Calls Tryd.prog 11 #[.pointer (some a)] w fun e w' => e = .returned (.int .i64 x) ∧ w = w' := by
  have hl := run_call_load (P := Tryd.prog) Tryd.func17 (by kernel_rfl) (by kernel_rfl) (by kernel_rfl) .i64 (by kernel_rfl) hc
  go_enter Tryd.func11, Tryd.ntmps11
  go_wp2
  go_ret
  exact ⟨rfl, rfl⟩
/-- Only block b was written. -/
structure Only (b : Nat) (w w' : World) : Prop where
  os : w'.os = w.os
  tape : w'.tape = w.tape
  output : w'.output = w.output
  size : w'.heap.size = w.heap.size
  other : ∀ k, k ≠ b → w'.heap[k]? = w.heap[k]?
theorem Only.refl (b : Nat) (w : World) : Only b w w := ⟨rfl, rfl, rfl, rfl, fun _ _ => rfl⟩
theorem Only.trans {b : Nat} {w w1 w2 : World} (h : Only b w w1) (k : Only b w1 w2) : Only b w w2 :=
  ⟨k.os.trans h.os, k.tape.trans h.tape, k.output.trans h.output, k.size.trans h.size, fun j hj => (k.other j hj).trans (h.other j hj)⟩
theorem Only.below {b B : Nat} {w w' : World} (h : Only b w w') (hB : B ≤ b) : Below B w w' :=
  ⟨h.os, h.tape, h.output, Nat.le_of_eq h.size.symm, fun k hk => h.other k (by omega)⟩
theorem Only.set_ {b : Nat} {w w' : World} (h : Only b w w') (j : Nat) (u : Value) : Only b w (w'.setCell ⟨b, j, none⟩ u) := by
  refine ⟨h.os, h.tape, h.output, ?_, fun k hk => ?_⟩
  · simpa using h.size
  · rw [← h.other k hk]
    exact Below.heap_setCell _ _ _ _ (by simpa using hk)
theorem below_le {B B1 : Nat} {w w' : World} (h : Below B w w') (hB : B1 ≤ B) : Below B1 w w' := ⟨h.os, h.tape, h.output, h.size, fun k hk => h.block k (by omega)⟩
/-- The table's cells. -/
def tabV : List Value := (List.range 16).map fun i => .int .u32 (tabI i)
/-- A machine's cells. -/
def cells (d l : Int) (t : List Value) (x y : Int) : List Value := [.int .u32 d, .int .i32 l, .int .u32 0] ++ t ++ [.int .i64 x, .int .i64 y]
/-- The register that a half byte begins with. -/
def top4 (i : Nat) : BitVec 32 := BitVec.ofNat 32 i <<< 28
theorem top4_nat (i : Nat) (h : i < 16) : ((top4 i).toNat : Int) = (i : Int) * 268435456 := by
  unfold top4
  rw [BitVec.toNat_shiftLeft, BitVec.toNat_ofNat, Nat.shiftLeft_eq]
  omega
theorem top4_tab : ∀ i : Fin 16, ((run (top4 i.val) (List.replicate 4 false)).toNat : Int) = tabI i.val := by decide +kernel
/-- The cells with the first i of the table built. -/
def part (d l : Int) (i : Nat) (x y : Int) : List Value := cells d l (tabV.take i ++ List.replicate (16 - i) (.int .u32 0)) x y
theorem tabV_len : tabV.length = 16 := rfl
theorem tabV_at (i : Nat) (h : i < 16) : tabV[i]'(by rw [tabV_len]; exact h) = .int .u32 (tabI i) := by simp [tabV]
theorem part_at (d l : Int) (i : Nat) (x y : Int) (h : i < 16) : (part d l i x y).toArray[3 + i]? = some (.int .u32 0) := by
  obtain ⟨m, hm⟩ : ∃ m, 16 - i = m + 1 := ⟨15 - i, by omega⟩
  have hl : (tabV.take i).length = i := by rw [List.length_take, tabV_len]; omega
  simp only [part, cells, hm, List.replicate_succ]
  rw [List.getElem?_toArray, show [Value.int .u32 d, .int .i32 l, .int .u32 0] ++ (tabV.take i ++ Value.int .u32 0 :: List.replicate m (.int .u32 0)) ++ [.int .i64 x, .int .i64 y] = ([Value.int .u32 d, .int .i32 l, .int .u32 0] ++ tabV.take i) ++ Value.int .u32 0 :: (List.replicate m (.int .u32 0) ++ [.int .i64 x, .int .i64 y]) by simp]
  rw [List.getElem?_append_right (by simp [hl]; omega), show 3 + i - ([Value.int .u32 d, .int .i32 l, .int .u32 0] ++ tabV.take i).length = 0 by simp [hl]; omega]
  simp
theorem part_set (d l : Int) (i : Nat) (x y : Int) (h : i < 16) : (part d l i x y).toArray.setIfInBounds (3 + i) (.int .u32 (tabI i)) = (part d l (i + 1) x y).toArray := by
  apply Array.ext'
  obtain ⟨m, hm⟩ : ∃ m, 16 - i = m + 1 := ⟨15 - i, by omega⟩
  have hm2 : 16 - (i + 1) = m := by omega
  have hl : (tabV.take i).length = i := by rw [List.length_take, tabV_len]; omega
  have ht : tabV.take (i + 1) = tabV.take i ++ [.int .u32 (tabI i)] := by rw [List.take_succ_eq_append_getElem (by rw [tabV_len]; exact h), tabV_at i h]
  simp only [part, cells, hm, hm2, ht, List.replicate_succ, List.setIfInBounds_toArray]
  rw [show [Value.int .u32 d, .int .i32 l, .int .u32 0] ++ (tabV.take i ++ Value.int .u32 0 :: List.replicate m (.int .u32 0)) ++ [.int .i64 x, .int .i64 y] = ([Value.int .u32 d, .int .i32 l, .int .u32 0] ++ tabV.take i) ++ Value.int .u32 0 :: (List.replicate m (.int .u32 0) ++ [.int .i64 x, .int .i64 y]) by simp]
  rw [List.set_append_right _ _ (by simp [hl]; omega)]
  rw [show 3 + i - ([Value.int .u32 d, .int .i32 l, .int .u32 0] ++ tabV.take i).length = 0 by simp [hl]; omega]
  simp
set_option maxRecDepth 100000 in
set_option maxHeartbeats 8000000 in
/-- The table is built; the lock and the flag stay as they are. -/
theorem build_is (b : Nat) (d l x y : Int) (w : World) (hb : w.heap[b]? = some (.cells (cells d l (List.replicate 16 (.int .u32 0)) x y).toArray 48 (0, 0))) (hx : 0 ≤ x ∧ x < 1000000) :
    Calls Tryd.prog 13 #[.pointer (some ⟨b, 0, none⟩)] w fun e w' => e = .returned (.tuple #[]) ∧ Only b w w' ∧ w'.heap[b]? = some (.cells (cells d l tabV (x + 1) y).toArray 48 (0, 0)) := by
  have HB := Aside0.mk (show w.heap[b]? = some (.cells (part d l 0 x y).toArray 48 (0, 0)) from hb)
  have HX := Aside0.mk hx
  clear hb hx
  go_enter Tryd.func13, Tryd.ntmps13
  go_wp2_with fail
  go_loopg [4] 17 (fun kq v4 w' => ∃ i : Nat, v4 = .int .i64 (i : Int) ∧ Aside0 (i ≤ 16) ∧ Aside0 (kq + i = 17) ∧ Aside0 (Only b w w' ∧ w'.heap[b]? = some (.cells (part d l i x y).toArray 48 (0, 0))))
  case atStart => exact ⟨0, rfl, ⟨by omega⟩, ⟨by omega⟩, ⟨Only.refl _ _, HB.out⟩⟩
  case round =>
    obtain ⟨i, rfl, hi, hk, hO⟩ := hrel
    clear HB
    rcases Nat.lt_or_ge i 16 with hlt | hge
    · have hrp := Aside0.mk (show top4 i = top4 i from rfl)
      have HLT := Aside0.mk hlt
      have d0 : decide ((i : Int) < 16) = true := decide_eq_true (by omega)
      have hwr : IntKind.u32.wrap (i : Int) = (i : Int) := by rw [IntKind.wrap_u32]; omega
      obtain ⟨gO, rfl⟩ : ∃ m, gk = m + 1 := ⟨gk - 1, by have := hk.out; omega⟩
      have di : decide (0 ≤ (i : Int)) = true := decide_eq_true (by omega)
      have T4 := Aside0.mk (top4_nat i hlt)
      have TT := Aside0.mk (show ((run (top4 i) (List.replicate 4 false)).toNat : Int) = tabI i from top4_tab ⟨i, hlt⟩)
      clear hlt
      go_wp2_with fail
      go_loopg [3, 10] 5 (fun kq v3 v10 w' => ∃ (j : Nat) (R : BitVec 32), v3 = .int .u32 (R.toNat : Int) ∧ v10 = .int .i64 (j : Int) ∧ Aside0 (j ≤ 4) ∧ Aside0 (kq + j = 5) ∧ Aside0 (run R (List.replicate (4 - j) false) = run (top4 i) (List.replicate 4 false)) ∧ w' = wr)
      case atStart => exact ⟨0, top4 i, by rw [T4.out]; congr 1; have := HLT.out; omega, rfl, ⟨by omega⟩, ⟨by omega⟩, ⟨rfl⟩, rfl⟩
      case round =>
        obtain ⟨j, R, rfl, rfl, hj, hkj, hR, rfl⟩ := hrel
        rcases Nat.lt_or_ge j 4 with hjl | hjg
        · have hRl := R.isLt
          have E1 := Aside0.mk (Crc.step_same R false 0 rfl (.inl rfl))
          have E2 := Aside0.mk (Crc.step_other R false 0 rfl (.inl rfl))
          have hRn : Aside0 (run (CrcMath.step R false) (List.replicate (4 - (j + 1)) false) = run (top4 i) (List.replicate 4 false)) := ⟨by
            rw [← hR.out, show 4 - j = (4 - (j + 1)) + 1 by omega, List.replicate_succ]; rfl⟩
          obtain ⟨S, hS⟩ : ∃ S, S = CrcMath.step R false := ⟨_, rfl⟩
          rw [← hS] at E1 E2 hRn
          obtain ⟨q, hq⟩ : ∃ q : Int, q = (R.toNat : Int) := ⟨_, rfl⟩
          have hq0 : 0 ≤ q ∧ q < 4294967296 := by omega
          rw [← hq] at E1 E2 ⊢
          have HJ := Aside0.mk hjl
          have dj : decide ((j : Int) < 4) = true := decide_eq_true (by omega)
          have HQ := Aside0.mk hq0
          obtain ⟨gI, rfl⟩ : ∃ m, gk = m + 1 := ⟨gk - 1, by have := hkj.out; have := HJ.out; omega⟩
          clear hR hRl hS hq hjl hq0
          go_wp2_with fail
          · rename_i hs
            have e := E2.out (by have : q / 2147483648 = 1 := by simpa using hs
                                 omega)
            clear hs E1 E2
            go_roundg gI
            case measure => omega
            case rel => exact ⟨j + 1, S, by rw [e], by first | rfl | (congr 1; unfold wrap64; have := HJ.out; omega), ⟨by have := HJ.out; omega⟩, ⟨by have := hkj.out; omega⟩, hRn, rfl⟩
          · rename_i hs
            have e := E1.out (by have : ¬ q / 2147483648 = 1 := by simpa using hs
                                 have := HQ.out; omega)
            clear hs E1 E2
            go_roundg gI
            case measure => omega
            case rel => exact ⟨j + 1, S, by rw [e], by first | rfl | (congr 1; unfold wrap64; have := HJ.out; omega), ⟨by have := HJ.out; omega⟩, ⟨by have := hkj.out; omega⟩, hRn, rfl⟩
        · have hj4 : j = 4 := by have := hj.out; omega
          subst hj4
          have hRe : R = run (top4 i) (List.replicate 4 false) := hR.out
          subst hRe
          rw [TT.out]
          have hb := hO.out.2
          have cc := (blk_cell hb (3 + i)).trans (part_at d l i x y HLT.out)
          have zz := blk_frozen hb (3 + i)
          have hb2 := Aside0.mk (show (wr.setCell ⟨b, 3 + i, none⟩ (.int .u32 (tabI i))).heap[b]? = some (.cells (part d l (i + 1) x y).toArray 48 (0, 0)) by rw [← part_set d l i x y HLT.out]; exact blk_set hb (3 + i) _)
          have ho2 := Aside0.mk (hO.out.1.set_ (3 + i) (.int .u32 (tabI i)))
          clear hb hjg
          go_wp2_with fail
          all_goals (first | (exfalso; have := HLT.out; omega) | skip)
          go_roundg gO
          case measure => omega
          case rel => exact ⟨i + 1, by first | rfl | (congr 1; unfold wrap64; have := HLT.out; omega), ⟨by have := HLT.out; omega⟩, ⟨by have := hk.out; omega⟩, ⟨ho2.out, hb2.out⟩⟩
    · have hie : i = 16 := by have := hi.out; omega
      subst hie
      clear hge
      have hb := hO.out.2
      have c19 : wr.cell? ⟨b, 19, none⟩ = some (.int .i64 x) := (blk_cell hb 19).trans rfl
      have z19 := blk_frozen hb 19
      have HA := Lib.hid (add_at ⟨b, 19, none⟩ x wr c19 z19 HX.out.1 (by have := HX.out.2; omega))
      have hb2 := Aside0.mk (blk_set hb 19 (.int .i64 (x + 1)))
      have ho2 := Aside0.mk (hO.out.1.set_ 19 (.int .i64 (x + 1)))
      clear hb c19 z19
      go_wp2_with fail
      refine HA.out.mono ?_
      rintro e w' ⟨rfl, rfl⟩
      go_wp2_with fail
      go_end0
      exact ⟨rfl, ho2.out, hb2.out⟩
/-- A machine in block b: whether it was built, and how many sums were asked for. -/
def Is (w : World) (b : Nat) (built : Bool) (n : Nat) : Prop := w.heap[b]? = some (.cells (if built = true then cells 1 0 tabV 1 n else cells 0 0 (List.replicate 16 (.int .u32 0)) 0 n).toArray 48 (0, 0))
theorem cells_at (d l : Int) (t : List Value) (x y : Int) (ht : t.length = 16) : (cells d l t x y).toArray[0]? = some (.int .u32 d) ∧ (cells d l t x y).toArray[1]? = some (.int .i32 l) ∧ (cells d l t x y).toArray[19]? = some (.int .i64 x) ∧ (cells d l t x y).toArray[20]? = some (.int .i64 y) := by
  refine ⟨by simp [cells], by simp [cells], ?_, ?_⟩
  · rw [List.getElem?_toArray, cells, List.getElem?_append_right (by simp [ht])]; simp [ht]
  · rw [List.getElem?_toArray, cells, List.getElem?_append_right (by simp [ht])]; simp [ht]
theorem set0 (d l e : Int) (t : List Value) (x y : Int) : (cells d l t x y).toArray.setIfInBounds 0 (.int .u32 e) = (cells e l t x y).toArray := by simp [cells]
theorem set1 (d l e : Int) (t : List Value) (x y : Int) : (cells d l t x y).toArray.setIfInBounds 1 (.int .i32 e) = (cells d e t x y).toArray := by simp [cells]
theorem set20 (d l : Int) (t : List Value) (x y z : Int) (ht : t.length = 16) : (cells d l t x y).toArray.setIfInBounds 20 (.int .i64 z) = (cells d l t x z).toArray := by
  apply Array.ext'
  simp only [cells, List.setIfInBounds_toArray]
  rw [List.set_append_right _ _ (by simp [ht])]
  simp [ht]
set_option maxRecDepth 100000 in
set_option maxHeartbeats 4000000 in
theorem slow_is (b : Nat) (y : Int) (fv : Value) (w : World) (hfv : fv = .func (.func 13) #[.pointer (some ⟨b, 0, none⟩)] #[]) (hb : w.heap[b]? = some (.cells (cells 0 0 (List.replicate 16 (.int .u32 0)) 0 y).toArray 48 (0, 0))) :
    Calls Tryd.prog 19 #[.pointer (some ⟨b, 0, none⟩), fv] w fun e w' => e = .returned (.tuple #[]) ∧ Only b w w' ∧ w'.heap[b]? = some (.cells (cells 1 0 tabV 1 y).toArray 48 (0, 0)) := by
  subst hfv
  obtain ⟨a0, a1, _, _⟩ := cells_at 0 0 (List.replicate 16 (.int .u32 0)) 0 y rfl
  have h0 := (blk_cell hb 0).trans a0
  have h1 := (blk_cell hb 1).trans a1
  have z := fun j => blk_frozen hb j
  have hb1 := blk_set hb 1 (.int .i32 1)
  rw [set1] at hb1
  have h01 : (w.setCell ⟨b, 1, none⟩ (.int .i32 1)).cell? ⟨b, 0, none⟩ = some (.int .u32 0) := (World.cell?_setCell_other _ ⟨b, 1, none⟩ ⟨b, 0, none⟩ _ (by simp)).trans h0
  have HC := Lib.hid (build_is b 0 1 0 y _ hb1 (by omega))
  have hnot : ∀ (x : Bool) (w : World), (Op.unary .not (.bool x)).run Tryd.prog w = .ok (.bool (!x)) w := fun _ _ => rfl
  have HO := Aside0.mk ((Only.refl b w).set_ 1 (.int .i32 1))
  clear hb hb1 a0 a1
  go_enter_defers Tryd.func19, Tryd.ntmps19
  go_wp2_with (first | (go_at_call 22; refine (lock_free ⟨b, 1, none⟩ _ (by go_simp) (by go_simp)).mono ?_; rintro e w' ⟨rfl, rfl⟩) | (go_at_call 18; refine (load_bool ⟨b, 0, none⟩ 0 false rfl _ (by go_simp)).mono ?_; rintro e w' ⟨rfl, rfl⟩))
  refine HC.out.mono ?_
  rintro e w2 ⟨rfl, hw, hb2⟩
  obtain ⟨a0, a1, _, _⟩ := cells_at 0 1 tabV (0 + 1) y rfl
  have c0 := (blk_cell hb2 0).trans a0
  have c1 := (blk_cell hb2 1).trans a1
  have z0 := fun j => blk_frozen hb2 j
  have HW := Lib.hid (And.intro (HO.out.trans hw) hb2)
  clear hw hb2 a0 a1
  go_wp2
  refine leaves_cons (f := 24) (args := #[.pointer (some ⟨b, 0, none⟩), .bool true]) (by simp) (by simp [go_sem]) ?_
  refine (store_deferred ⟨b, 0, none⟩ (.int .u32 0) .returning _ c0 (z0 _)).mono ?_
  rintro e u' w'' ⟨rfl, rfl, rfl⟩
  refine leaves_cons (f := 23) (args := #[.pointer (some ⟨b, 1, none⟩)]) (by simp [settle]) (by simp [go_sem]) ?_
  refine (unlock_deferred ⟨b, 1, none⟩ _ _ ?_ (by simp [z0])).mono ?_
  · refine (World.cell?_setCell_other _ ⟨b, 0, none⟩ ⟨b, 1, none⟩ _ (by simp)).trans ?_
    rw [World.cell?_drew]; exact c1
  rintro e u' w'' ⟨rfl, rfl, rfl⟩
  obtain ⟨ho, hb3⟩ := HW.out
  simp [Leaves, settle, results, Tryd.results19]
  have hd : Only b w w2.drew := ⟨ho.os, ho.tape, ho.output, ho.size, ho.other⟩
  refine ⟨(hd.set_ 0 _).set_ 1 _, ?_⟩
  have := blk_set (blk_set (show w2.drew.heap[b]? = _ from hb3) 0 (.int .u32 1)) 1 (.int .i32 0)
  rw [set0, set1] at this
  exact this
set_option maxRecDepth 100000 in
theorem do_any (b n : Nat) (built : Bool) (w : World) (h : Is w b built n) :
    Calls Tryd.prog 12 #[.pointer (some ⟨b, 0, none⟩), .func (.func 13) #[.pointer (some ⟨b, 0, none⟩)] #[]] w fun e w' => e = .returned (.tuple #[]) ∧ Only b w w' ∧ Is w' b true n := by
  have hnot : ∀ (x : Bool) (w : World), (Op.unary .not (.bool x)).run Tryd.prog w = .ok (.bool (!x)) w := fun _ _ => rfl
  cases built with
  | false =>
    have hb : w.heap[b]? = some (.cells (cells 0 0 (List.replicate 16 (.int .u32 0)) 0 n).toArray 48 (0, 0)) := h
    have h0 := (blk_cell hb 0).trans (cells_at 0 0 (List.replicate 16 (.int .u32 0)) 0 n rfl).1
    have HC := Lib.hid (slow_is b n _ w rfl hb)
    clear hb h
    go_enter Tryd.func12, Tryd.ntmps12
    go_wp2_with (first | (go_at_call 18; refine (load_bool ⟨b, 0, none⟩ 0 false rfl _ (by go_simp)).mono ?_; rintro e w' ⟨rfl, rfl⟩))
    refine HC.out.mono ?_
    rintro e w2 ⟨rfl, hw, hb⟩
    have HW := Lib.hid (And.intro hw hb)
    clear hw hb HC
    go_wp2
    go_end0
    exact ⟨rfl, HW.out⟩
  | true =>
    have hb : w.heap[b]? = some (.cells (cells 1 0 tabV 1 n).toArray 48 (0, 0)) := h
    have h0 := (blk_cell hb 0).trans (cells_at 1 0 tabV 1 n rfl).1
    have H := Lib.hid h
    clear hb h
    go_enter Tryd.func12, Tryd.ntmps12
    go_wp2_with (first | (go_at_call 18; refine (load_bool ⟨b, 0, none⟩ 1 true rfl _ (by go_simp)).mono ?_; rintro e w' ⟨rfl, rfl⟩))
    go_end0
    exact ⟨rfl, Only.refl _ _, H.out⟩
theorem tab_cell {w : World} {b : Nat} {d l x y : Int} {T : TypeId} (hb : w.heap[b]? = some (.cells (cells d l tabV x y).toArray T (0, 0))) (i : Nat) (hi : i < 16) : w.cell? ⟨b, 3 + i, none⟩ = some (.int .u32 (tabI i)) := by
  refine (blk_cell hb _).trans ?_
  rw [List.getElem?_toArray, cells, List.append_assoc, List.getElem?_append_right (by simp), List.getElem?_append_left (by rw [tabV_len]; simp; omega)]
  simp only [List.length_cons, List.length_nil]
  rw [show 3 + i - (0 + 1 + 1 + 1) = i by omega, List.getElem?_eq_getElem (by rw [tabV_len]; exact hi), tabV_at i hi]
set_option maxRecDepth 100000 in
set_option maxHeartbeats 4000000 in
/-- The sum, asked of a machine. -/
theorem sum_mach (b n : Nat) (built : Bool) (A : Option Addr) (l : List Int) (c : Nat) (w : World) (h : Is w b built n) (hn : n ≤ 1000) (hr : Kd.C (Kd.int .u8) w A l.length l) (hA : 0 < l.length → ∀ a, A = some a → a.block ≠ b) (hb : ∀ x ∈ l, 0 ≤ x ∧ x ≤ 255) :
    Calls Tryd.prog 8 #[.pointer (some ⟨b, 0, none⟩), .slice A l.length c] w fun e w' => e = .returned (.int .u32 (sumF l)) ∧ Only b w w' ∧ Is w' b true (n + 1) := by
  have hm := hr.2.1
  have HD := Lib.hid (do_any b n built w h)
  have HC := Aside0.mk hr
  have HA := Aside0.mk hA
  have HBY := Aside0.mk hb
  have HN := Aside0.mk hn
  clear hr hb h hA hn
  go_enter Tryd.func8, Tryd.ntmps8
  go_wp2_with fail
  refine HD.out.mono ?_
  rintro e w1 ⟨rfl, ho, hI⟩
  have hb1 : w1.heap[b]? = some (.cells (cells 1 0 tabV 1 n).toArray 48 (0, 0)) := hI
  have c20 := (blk_cell hb1 20).trans (cells_at 1 0 tabV 1 n rfl).2.2.2
  have HAD := Lib.hid (add_at ⟨b, 20, none⟩ n w1 c20 (blk_frozen hb1 20) (by omega) (by have := HN.out; omega))
  have hb2 := blk_set hb1 20 (.int .i64 ((n : Int) + 1))
  rw [set20 _ _ _ _ _ _ tabV_len] at hb2
  have HB2 := Aside0.mk hb2
  have HO2 := Aside0.mk (ho.set_ 20 (.int .i64 ((n : Int) + 1)))
  clear hb1 c20 hb2 ho hI HD
  go_wp2_with fail
  refine HAD.out.mono ?_
  rintro e w2 ⟨rfl, rfl⟩
  obtain ⟨w2, hw2⟩ : ∃ w2, w2 = w1.setCell ⟨b, 20, none⟩ (.int .i64 ((n : Int) + 1)) := ⟨_, rfl⟩
  rw [← hw2] at HB2 HO2 ⊢
  clear HAD hw2
  have HC2 : Aside0 (Kd.C (Kd.int .u8) w2 A l.length l) := ⟨by
    obtain ⟨h1, h2, h3⟩ := HC.out
    refine ⟨h1, h2, fun hp => ?_⟩
    obtain ⟨a, ha, hx⟩ := h3 hp
    refine ⟨a, ha, fun j p hj => ?_⟩
    obtain ⟨cs, q1, q2, q3⟩ := hx j p hj
    refine ⟨cs, q1, q2, fun i u hu => ?_⟩
    rw [← q3 i u hu]
    have hne : (a.add (j * (Kd.int .u8).sz + i)).block ≠ b := by rw [add_block]; exact HA.out hp a ha
    simp only [World.cell?, HO2.out.other _ hne]⟩
  clear HC
  go_wp2_with fail
  rw [← ones_int]
  go_loopg [5, 25] (l.length + 1) (fun kq v5 v25 w' => ∃ i : Nat, v5 = .int .u32 ((takeF ones (l.take i)).toNat : Int) ∧ v25 = .int .i64 (i : Int) ∧ Aside0 (i ≤ l.length) ∧ Aside0 (kq + i = l.length + 1) ∧ w' = w2)
  case atStart => exact ⟨0, rfl, rfl, ⟨by omega⟩, ⟨by omega⟩, rfl⟩
  case round =>
    obtain ⟨i, rfl, rfl, hi, hk, rfl⟩ := hrel
    rcases Nat.lt_or_ge i l.length with hlt | hge
    · obtain ⟨ad, cc, rfl, hcl, hK, hcell⟩ := Kd.C_get HC2.out (0 : Int) (i : Int) (by omega) (by omega)
      obtain rfl : cc = [Value.int .u8 (l.getD (i : Int).toNat 0)] := hK
      have hx := hcell 0 _ rfl
      have hq : (l.getD (i : Int).toNat 0) = l[i] := by simp [hlt]
      rw [hq] at hx
      simp only [Int.toNat_natCast, Kd.int, Kd.scalar, Nat.mul_one, Nat.add_zero] at hx
      have d0 : decide ((i : Int) < (l.length : Int)) = true := decide_eq_true (by omega)
      obtain ⟨c0, c1⟩ := HBY.out l[i] (List.getElem_mem hlt)
      obtain ⟨m, hm1, hm2⟩ := byte_int (takeF ones (l.take i)) l[i] c0 c1
      have hsn : takeF ones (l.take (i + 1)) = run (takeF ones (l.take i)) (bits8 (by8 l[i])) := by
        rw [show l.take (i + 1) = l.take i ++ [l[i]] by simp [List.take_append_getElem], takeF_snoc]
      rw [← hsn] at hm2
      obtain ⟨R, hR⟩ : ∃ R, R = ((takeF ones (l.take i)).toNat : Int) := ⟨_, rfl⟩
      obtain ⟨R2, hR2⟩ : ∃ R2, R2 = ((takeF ones (l.take (i + 1))).toNat : Int) := ⟨_, rfl⟩
      have hR0 := (takeF ones (l.take i)).isLt
      rw [← hR] at hm1
      rw [← hR2] at hm2
      obtain ⟨M, hM⟩ : ∃ M, M = (m.toNat : Int) := ⟨_, rfl⟩
      have hM0 := m.isLt
      rw [← hM] at hm1 hm2
      have hRb : 0 ≤ R ∧ R < 4294967296 := by omega
      have hMb : 0 ≤ M ∧ M < 4294967296 := by omega
      clear hR0 hM0 hM
      have H2 := Aside0.mk (And.intro hR2 hsn)
      clear hsn
      rw [← hR]
      have i1 := idx_lt (R / 268435456) (l[i] / 16) (by omega) (by omega) (by omega) (by omega)
      have i2 := idx_lt (M / 268435456) (l[i] % 16) (by omega) (by omega) (by omega) (by omega)
      obtain ⟨I1, hI1⟩ : ∃ I1 : Nat, bits .xor .u32 (R / 268435456) (l[i] / 16) = (I1 : Int) := ⟨_, (Int.toNat_of_nonneg i1.1).symm⟩
      obtain ⟨I2, hI2⟩ : ∃ I2 : Nat, bits .xor .u32 (M / 268435456) (l[i] % 16) = (I2 : Int) := ⟨_, (Int.toNat_of_nonneg i2.1).symm⟩
      rw [hI1] at hm1 i1
      rw [hI2] at hm2 i2
      simp only [Int.toNat_natCast] at hm1 hm2
      have t1 := tab_cell HB2.out I1 (by omega)
      have t2 := tab_cell HB2.out I2 (by omega)
      have j1 := hm1.symm
      have j2 := hm2.symm
      have b1 : decide ((I1 : Int) < 16) = true := decide_eq_true i1.2
      have b2 : decide ((I2 : Int) < 16) = true := decide_eq_true i2.2
      have B12 := Aside0.mk (And.intro i1.2 i2.2)
      have HH := Aside0.mk hR
      clear hm1 hm2 i1 i2 hR hR2 hcell hcl hq
      obtain ⟨gk, rfl⟩ : ∃ m, gk = m + 1 := ⟨gk - 1, by have := hk.out; omega⟩
      go_wp2
      all_goals (first | (exfalso; have := B12.out; omega) | skip)
      go_roundg gk
      case measure => omega
      case rel =>
        exact ⟨i + 1, by rw [← H2.out.1], by simp, ⟨by omega⟩, ⟨by have := hk.out; omega⟩, rfl⟩
    · have d0 : decide (i < l.length) = false := decide_eq_false (by omega)
      have hie : i = l.length := by have := hi.out; omega
      have htk : l.take i = l := by rw [hie, List.take_length]
      clear hge hie
      rw [htk]
      clear htk
      go_wp2
      go_ret
      exact ⟨Crc.ret_u32 (Crc.not_int _), HO2.out, HB2.out⟩
set_option maxRecDepth 100000 in
theorem new_mach (w : World) : Calls Tryd.prog 5 #[] w fun e w' => e = .returned (.pointer (some ⟨w.heap.size, 0, none⟩)) ∧ Is w' w.heap.size false 0 ∧ w'.heap.size = w.heap.size + 1 ∧ Below w.heap.size w w' := by
  go_enter Tryd.func5, Tryd.ntmps5
  go_wp2
  go_ret
  exact ⟨rfl, heap_alloc_new w _, by simp, (Below.refl _ _).alloc (Nat.le_refl _) _⟩
theorem built_is (b n : Nat) (built : Bool) (w : World) (h : Is w b built n) : Calls Tryd.prog 6 #[.pointer (some ⟨b, 0, none⟩)] w fun e w' => e = .returned (.int .i64 (if built = true then 1 else 0)) ∧ w = w' := by
  have c19 : w.cell? ⟨b, 19, none⟩ = some (.int .i64 (if built = true then 1 else 0)) := by
    cases built with
    | false => exact (blk_cell h 19).trans (cells_at 0 0 (List.replicate 16 (.int .u32 0)) 0 n rfl).2.2.1
    | true => exact (blk_cell h 19).trans (cells_at 1 0 tabV 1 n rfl).2.2.1
  have HL := Lib.hid (load_at ⟨b, 19, none⟩ _ w c19)
  clear c19 h
  generalize (if built = true then (1 : Int) else 0) = q at HL ⊢
  go_enter Tryd.func6, Tryd.ntmps6
  go_wp2_with fail
  refine HL.out.mono ?_
  rintro e w' ⟨rfl, rfl⟩
  go_wp2
  go_ret
  exact ⟨rfl, rfl⟩
theorem sums_is (b n : Nat) (built : Bool) (w : World) (h : Is w b built n) : Calls Tryd.prog 7 #[.pointer (some ⟨b, 0, none⟩)] w fun e w' => e = .returned (.int .i64 n) ∧ w = w' := by
  have c20 : w.cell? ⟨b, 20, none⟩ = some (.int .i64 n) := by
    cases built with
    | false => exact (blk_cell h 20).trans (cells_at 0 0 (List.replicate 16 (.int .u32 0)) 0 n rfl).2.2.2
    | true => exact (blk_cell h 20).trans (cells_at 1 0 tabV 1 n rfl).2.2.2
  have HL := Lib.hid (load_at ⟨b, 20, none⟩ _ w c20)
  clear c20 h
  go_enter Tryd.func7, Tryd.ntmps7
  go_wp2_with fail
  refine HL.out.mono ?_
  rintro e w' ⟨rfl, rfl⟩
  go_wp2
  go_ret
  exact ⟨rfl, rfl⟩
end Go.Proofs.YtdamjkfggmmmeacDoor.Mach
