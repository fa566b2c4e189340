/- What the frame's Open (chapter 4) does to memory. -/
import Derived.Test.YtdamjkfggmmmeabDoorFrame
import Derived.Deep.RegionWith
namespace Go.Proofs.YtdamjkfggmmmeabDoor.Frame
open Go.RowKit Go.Proofs.YtdamjkfggmmmeabDoorW.PrintWords Go.Proofs.YtdamjkfggmmmeabDoorW.PrintLast Go.Proofs.YtdamjkfggmmmeabDoorW.PrintMore
open Octet (Rd stepF numN num)
set_option linter.unusedVariables false
set_option linter.unusedSimpArgs false

theorem seal_range (gen : Int) (A : Option Addr) (n c : Nat) (w : World) (hg : ¬ (1 ≤ gen ∧ gen ≤ 3)) :
    Calls Tryd.prog 9 #[.int .i64 gen, .slice A n c] w fun e w' => e = .returned (.tuple #[.slice none 0 0, .int .i64 5]) ∧ w = w' := by
  by_cases h1 : 1 ≤ gen
  · have h3 : 3 < gen := by omega
    clear hg
    go_enter Tryd.func9, Tryd.ntmps9
    go_wp2
    go_ret2
    exact ⟨rfl, rfl⟩
  · have h3 : gen < 1 := by omega
    clear hg h1
    go_enter Tryd.func9, Tryd.ntmps9
    go_wp2
    go_ret2
    exact ⟨rfl, rfl⟩
theorem seal_long (gen : Int) (A : Option Addr) (n c : Nat) (w : World) (hg1 : 1 ≤ gen) (hg3 : gen ≤ 3) (hn : 65499 < n) (hm : n ≤ 9223372036854775807) :
    Calls Tryd.prog 9 #[.int .i64 gen, .slice A n c] w fun e w' => e = .returned (.tuple #[.slice none 0 0, .int .i64 3]) ∧ w = w' := by
  go_enter Tryd.func9, Tryd.ntmps9
  go_wp2
  go_ret2
  exact ⟨rfl, rfl⟩
/-- A number that is there to be read. -/
theorem num_at (g ob : Nat) (l : List Int) (i : Nat) (k : Int) (v : Int) (w : World) (h : Octet.Is w g ob ⟨l, i, false⟩) (h1 : 1 ≤ k) (h7 : k ≤ 7) (hi : (i : Int) + k ≤ l.length) (hb : byteAll l) (hv : num ((l.drop i).take k.toNat) = v) :
    Calls Tryd.prog 14 #[.pointer (some ⟨g, 0, none⟩), .int .i64 k] w fun e w' => e = .returned (.int .i64 v) ∧ Octet.Is w' g ob ⟨l, i + k.toNat, false⟩ ∧ KeepBut w w' g none ∧ (∀ B, B ≤ g → Below B w w') := by
  have hn : numN k = k := by unfold numN; rw [if_neg (by omega)]
  have hs : stepF ⟨l, i, false⟩ (numN k) = (some ((l.drop i).take k.toNat), ⟨l, i + k.toNat, false⟩) := by
    rw [hn]; unfold stepF
    rw [if_neg (by simp), if_neg (by simp; omega)]
  have := Octet.num_all g ob ⟨l, i, false⟩ k w h _ _ hs (fun p hp c hc => by
    obtain rfl := Option.some.inj hp
    exact hb c (List.mem_of_mem_drop (List.mem_of_mem_take hc)))
  rw [Option.getD_some, hv] at this
  exact this
theorem take_at (g ob : Nat) (l : List Int) (i : Nat) (k : Int) (w : World) (h : Octet.Is w g ob ⟨l, i, false⟩) (h0 : 0 ≤ k) (hi : (i : Int) + k ≤ l.length) :
    Calls Tryd.prog 15 #[.pointer (some ⟨g, 0, none⟩), .int .i64 k] w fun e w' => ∃ v : Value, e = .returned v ∧ Kd.R (Kd.int .u8) 5 w' w.heap.size (fun _ => True) v ((l.drop i).take k.toNat) ∧ Octet.Is w' g ob ⟨l, i + k.toNat, false⟩ ∧ KeepBut w w' g none ∧ (∀ B, B ≤ g → B ≤ w.heap.size → Below B w w') := by
  have hs : stepF ⟨l, i, false⟩ k = (some ((l.drop i).take k.toNat), ⟨l, i + k.toNat, false⟩) := by
    unfold stepF
    rw [if_neg (by simp), if_neg (by simp; omega)]
  have := Octet.take_all g ob ⟨l, i, false⟩ k w h _ _ hs
  rwa [Option.getD_some] at this
/-- What stands at i of bytes. -/
def at1 (l : List Int) (i : Nat) : Int := l.getD i 0
theorem num1 (l : List Int) (i : Nat) (h : i < l.length) : num ((l.drop i).take 1) = at1 l i := by
  have : (l.drop i).take 1 = [l[i]] := by
    rw [List.drop_eq_getElem_cons h]; rfl
  rw [this]
  simp [num, at1, h]
theorem num2 (l : List Int) (i : Nat) (h : i + 1 < l.length) : num ((l.drop i).take 2) = at1 l i * 256 + at1 l (i + 1) := by
  have : (l.drop i).take 2 = [l[i], l[i + 1]] := by
    rw [List.drop_eq_getElem_cons (show i < l.length by omega), List.drop_eq_getElem_cons h]; rfl
  rw [this]
  simp [num, at1, h, show i < l.length by omega]
theorem at1_range {l : List Int} (h : byteAll l) (i : Nat) : 0 ≤ at1 l i ∧ at1 l i ≤ 255 := by
  unfold at1
  rw [List.getD_eq_getElem?_getD]
  cases hx : l[i]? with
  | none => simp
  | some x => exact h x (List.mem_of_getElem? hx)
set_option maxRecDepth 100000 in
theorem open_long (A : Option Addr) (n c : Nat) (w : World) (hn : 65507 < n) (hm : n ≤ 9223372036854775807) :
    Calls Tryd.prog 11 #[.slice A n c] w fun e w' => e = .returned (.tuple #[.int .i64 0, .slice none 0 0, .int .i64 3]) ∧ w = w' := by
  go_enter Tryd.func11, Tryd.ntmps11
  go_wp2
  go_ret3
  exact ⟨rfl, rfl⟩
set_option maxRecDepth 100000 in
theorem open_short (A : Option Addr) (n c : Nat) (w : World) (hn : n < 8) :
    Calls Tryd.prog 11 #[.slice A n c] w fun e w' => e = .returned (.tuple #[.int .i64 0, .slice none 0 0, .int .i64 2]) ∧ w = w' := by
  go_enter Tryd.func11, Tryd.ntmps11
  go_wp2
  go_ret3
  exact ⟨rfl, rfl⟩
/-- The head is that of a frame. -/
def Headed (l : List Int) : Prop := at1 l 0 = 156 ∧ 1 ≤ at1 l 1 ∧ at1 l 1 ≤ 3 ∧ at1 l 2 * 256 + at1 l 3 = (l.length : Int) - 8
instance (l : List Int) : Decidable (Headed l) := by unfold Headed; exact inferInstance
set_option maxRecDepth 100000 in
set_option maxHeartbeats 4000000 in
theorem open_form (A : Option Addr) (l : List Int) (c : Nat) (w : World) (hr : Kd.C (Kd.int .u8) w A l.length l) (hb : byteAll l) (h8 : 8 ≤ l.length) (hm : l.length ≤ 65507) (hh : ¬ Headed l) :
    Calls Tryd.prog 11 #[.slice A l.length c] w fun e w' => e = .returned (.tuple #[.int .i64 0, .slice none 0 0, .int .i64 4]) ∧ Below w.heap.size w w' := by
  have HRD := Lib.hid (Octet.read_new A l c w hr (by omega))
  have HB := Aside0.mk hb
  obtain ⟨a0, h0⟩ : ∃ a, num ((l.drop 0).take 1) = a := ⟨_, rfl⟩
  obtain ⟨a1, h1⟩ : ∃ a, num ((l.drop 1).take 1) = a := ⟨_, rfl⟩
  obtain ⟨a2, h2⟩ : ∃ a, num ((l.drop 2).take 2) = a := ⟨_, rfl⟩
  have e0 : at1 l 0 = a0 := by rw [← h0, num1 l 0 (by omega)]
  have e1 : at1 l 1 = a1 := by rw [← h1, num1 l 1 (by omega)]
  have e2 : at1 l 2 * 256 + at1 l 3 = a2 := by rw [← h2, num2 l 2 (by omega)]
  have H012 := Aside0.mk (And.intro h0 (And.intro h1 h2))
  unfold Headed at hh
  rw [e0, e1, e2] at hh
  have q8 : wrap64 ((l.length : Int) - 8) = (l.length : Int) - 8 := by unfold wrap64; omega
  clear hr hb h0 h1 h2 e0 e1 e2
  have cs : (a0 != 156) = true ∨ (a0 != 156) = false ∧ (a1 < 1 ∨ 1 ≤ a1 ∧ (3 < a1 ∨ a1 ≤ 3 ∧ (a2 != (l.length : Int) - 8) = true)) := by
    by_cases x0 : a0 = 156
    · refine .inr ⟨by simpa using x0, ?_⟩
      by_cases x1 : a1 < 1
      · exact .inl x1
      · refine .inr ⟨by omega, ?_⟩
        by_cases x2 : 3 < a1
        · exact .inl x2
        · refine .inr ⟨by omega, ?_⟩
          simp only [bne_iff_ne, ne_eq]
          intro h; exact hh ⟨x0, by omega, by omega, h⟩
    · exact .inl (by simpa using x0)
  clear hh
  have hR := Lib.hid hm
  rcases cs with c0 | ⟨c0, c1 | ⟨c1, c2 | ⟨c2, c3⟩⟩⟩
  all_goals
    go_enter Tryd.func11, Tryd.ntmps11
    go_wp2_with fail
    refine HRD.out.mono ?_
    rintro e w1 ⟨g, ob, rfl, i1, i2, i3, i4, i5, i6⟩
    have hI1 := Aside0.mk (⟨i1, i2, Nat.ne_of_lt i5, Nat.zero_le _, by have := hR.out; show l.length ≤ _; omega⟩ : Octet.Is w1 g ob ⟨l, 0, false⟩)
    have hB1 := Aside0.mk i6
    have hg := Aside0.mk i3
    clear i1 i2 i3 i4 i5 i6
    go_wp2_with fail
    refine (num_at g ob l 0 1 a0 w1 hI1.out (by omega) (by omega) (by omega) HB.out H012.out.1).mono ?_
    rintro e w2 ⟨rfl, j1, j2, j3⟩
    have hI2 := Aside0.mk j1
    have hB2 := Aside0.mk (hB1.out.trans (j3 _ hg.out))
    clear j1 j2 j3 hI1 hB1
    go_wp2_with fail
    refine (num_at g ob l 1 1 a1 w2 hI2.out (by omega) (by omega) (by omega) HB.out H012.out.2.1).mono ?_
    rintro e w3 ⟨rfl, j1, j2, j3⟩
    have hI3 := Aside0.mk j1
    have hB3 := Aside0.mk (hB2.out.trans (j3 _ hg.out))
    clear j1 j2 j3 hI2 hB2
    go_wp2_with fail
    refine (num_at g ob l 2 2 a2 w3 hI3.out (by omega) (by omega) (by omega) HB.out H012.out.2.2).mono ?_
    rintro e w4 ⟨rfl, j1, j2, j3⟩
    have hI4 := Aside0.mk j1
    have hB4 := Aside0.mk (hB3.out.trans (j3 _ hg.out))
    clear j1 j2 j3 hI3 hB3
    go_wp2
    go_ret3
    exact ⟨rfl, hB4.out⟩

theorem num4_range (l : List Int) (hb : byteAll l) (i : Nat) : 0 ≤ num ((l.drop i).take 4) ∧ num ((l.drop i).take 4) < 4294967296 := by
  obtain ⟨h0, h1⟩ := Octet.num_range ((l.drop i).take 4) (fun c hc => hb c (List.mem_of_mem_drop (List.mem_of_mem_take hc)))
  refine ⟨h0, Int.lt_of_lt_of_le h1 ?_⟩
  have : ((l.drop i).take 4).length ≤ 4 := by simp; omega
  have h4 : ((l.drop i).take 4).length = 0 ∨ ((l.drop i).take 4).length = 1 ∨ ((l.drop i).take 4).length = 2 ∨ ((l.drop i).take 4).length = 3 ∨ ((l.drop i).take 4).length = 4 := by omega
  rcases h4 with h | h | h | h | h <;> rw [h] <;> decide
/-- The body, and whether the sum is right. -/
def bodyOf (l : List Int) : List Int := (l.drop 4).take (l.length - 8)
def sumOk (l : List Int) : Bool := num ((l.drop (l.length - 4)).take 4) == Crc.sumF (l.take (l.length - 4))
theorem cut_front (A : Option Addr) (n c m : Nat) (hm : m ≤ c) : ∀ W : World, (Instr.slice 22 (.slice A n c) none (some (.int .i64 (m : Int))) none).run Tryd.prog W = .ok (.slice A m c) W := by
  intro W
  have hu : Tryd.prog.underlying 22 = some (.slice (Tryd.prog.elem 22)) := by
    rw [show Tryd.prog.elem 22 = 5 by simp [Program.elem, Tryd.underlying22]]; exact Tryd.underlying22
  rw [run_slice_h W 22 A n c hu .i64 (m : Int) (by omega) (by omega)]
  obtain ⟨i, hi, he⟩ := Option.map_eq_some_iff.1 Octet.info5
  have hel : Tryd.prog.elem 22 = 5 := by simp [Program.elem, Tryd.underlying22]
  have hA : Option.map (fun x : Addr => x.add 0) A = A := by cases A <;> simp [Addr.add]
  rw [hel]
  simp [sizeOf, typeInfo, hi, sliced, Result.andThen, hA]
/-- Behind a number's reading, the row of rows laid ahead of it or not. -/
theorem after_num {w w5 w6 W : World} {g ob : Nat} {s : Rd} {v : Value} {B : List Int} (A : Option Addr) (n c : Nat) (T : TypeId) (hI : Octet.Is w5 g ob s) (hO : Kd.R (Kd.int .u8) 5 w5 w.heap.size (fun _ => True) v B) (hB : Below w.heap.size w w5) (hg : w.heap.size ≤ g)
    (hW : W = w5.drew ∨ W = (w5.alloc (.cells #[.slice A n c] T)).drew) (j2 : KeepBut W w6 g none) (j3 : ∀ B, B ≤ g → Below B W w6) :
    Kd.R (Kd.int .u8) 5 w6 w.heap.size (fun _ => True) v B ∧ Below w.heap.size w w6 ∧ (W = (w5.alloc (.cells #[.slice A n c] T)).drew → w6.heap[w5.heap.size]? = some (.cells #[.slice A n c] T (0, 0))) := by
  have hO' := Kd.R_types hO hI.hg (by decide)
  have hlt := blk_lt hI.hg
  refine ⟨?_, ?_, fun e => ?_⟩
  · rcases hW with rfl | rfl
    · exact Kd.R_mono (Kd.R_keep (Kd.R_drew hO') j2 (fun _ h => h.2)) (fun _ h => h.1)
    · exact Kd.R_mono (Kd.R_keep (Kd.R_drew (Kd.R_alloc hO' _)) j2 (fun _ h => h.2)) (fun _ h => h.1)
  · rcases hW with rfl | rfl
    · exact (below_drew hB).trans (j3 _ hg)
    · exact (below_drew (below_alloc hB _)).trans (j3 _ hg)
  · subst e
    exact j2.blk (o := .cells #[.slice A n c] T (0, 0)) (heap_alloc_new w5 _) (by omega) (by simp)
set_option maxRecDepth 100000 in
set_option maxHeartbeats 8000000 in
theorem open_rest (A : Option Addr) (l : List Int) (c : Nat) (w : World) (hL : Crc.Laid w) (hr : Kd.C (Kd.int .u8) w A l.length l) (hc : l.length ≤ c) (hb : byteAll l) (h8 : 8 ≤ l.length) (hm : l.length ≤ 65507) (hh : Headed l) :
    Calls Tryd.prog 11 #[.slice A l.length c] w fun e w' => (∃ v : Value, e = .returned (.tuple #[.int .i64 (if sumOk l = true then at1 l 1 else 0), v, .int .i64 (if sumOk l = true then 0 else 8)]) ∧ Kd.R (Kd.int .u8) 5 w' w.heap.size (fun _ => True) v (if sumOk l = true then bodyOf l else [])) ∧ Below w.heap.size w w' := by
  have HRD := Lib.hid (Octet.read_new A l c w hr (by omega))
  have HB := Aside0.mk hb
  have HR := Aside0.mk hr
  have HL := Aside0.mk hL
  obtain ⟨x0, x1, x2, x3⟩ := hh
  obtain ⟨a1, ha1⟩ : ∃ a, at1 l 1 = a := ⟨_, rfl⟩
  obtain ⟨n4, hn4⟩ : ∃ n : Nat, l.length - 4 = n := ⟨_, rfl⟩
  have h0 : num ((l.drop 0).take 1) = 156 := by rw [num1 l 0 (by omega), x0]
  have h1 : num ((l.drop 1).take 1) = a1 := by rw [num1 l 1 (by omega), ha1]
  obtain ⟨a2, h2⟩ : ∃ a, num ((l.drop 2).take 2) = a := ⟨_, rfl⟩
  have e2 : a2 = (l.length : Int) - 8 := by rw [← h2, num2 l 2 (by omega), x3]
  obtain ⟨v4, h4⟩ : ∃ v, num ((l.drop n4).take 4) = v := ⟨_, rfl⟩
  obtain ⟨q0, q1⟩ := num4_range l hb n4
  rw [h4] at q0 q1
  obtain ⟨s, hs⟩ : ∃ s, Crc.sumF (l.take n4) = s := ⟨_, rfl⟩
  have hok : sumOk l = (v4 == s) := by unfold sumOk; rw [hn4, h4, hs]
  have hbd : bodyOf l = (l.drop 4).take a2.toNat := by unfold bodyOf; rw [e2]; congr 1; omega
  rw [ha1] at x1 x2 ⊢
  rw [hok, hbd]
  obtain ⟨B, hB⟩ : ∃ B, (l.drop 4).take a2.toNat = B := ⟨_, rfl⟩
  rw [hB]
  have H := Aside0.mk (And.intro h0 (And.intro h1 (And.intro h2 (And.intro h4 (And.intro hs hB)))))
  have HM := Aside0.mk (show (l.length : Int) = a2 + 8 ∧ n4 + 4 = l.length ∧ 0 ≤ a2 by omega)
  have HC : Aside0 (Kd.C (Kd.int .u8) w A (l.take n4).length (l.take n4)) := ⟨Kd.C_take hr (by omega)⟩
  have htl : Aside0 ((l.take n4).length = n4) := ⟨by rw [List.length_take]; omega⟩
  have htb : Aside0 (byteAll (l.take n4)) := ⟨fun x hx => hb x (List.mem_of_mem_take hx)⟩
  have HCC := Aside0.mk hc
  have c2 : (a2 != (l.length : Int) - 8) = false := by rw [e2]; simp
  have w8 : wrap64 ((l.length : Int) - 8) = (l.length : Int) - 8 := by unfold wrap64; omega
  have w4 : wrap64 ((l.length : Int) - 4) = (n4 : Int) := by unfold wrap64; omega
  have w4' : IntKind.i64.wrap ((l.length : Int) - 4) = (n4 : Int) := by rw [i64_w]; exact w4
  have hsl := cut_front A l.length c n4 (by omega)
  have hRd := Aside0.mk hm
  have w32 : IntKind.u32.wrap v4 = v4 := by rw [IntKind.wrap_u32]; omega
  have hn4c : n4 ≤ c := by omega
  have hvs : (v4 == s) = true ∧ (v4 != s) = false ∨ (v4 == s) = false ∧ (v4 != s) = true := by
    by_cases h : v4 = s
    · exact .inl ⟨by simpa using h, by simpa using h⟩
    · exact .inr ⟨by simpa using h, by simpa using h⟩
  clear hL hr hb hok hbd h0 h1 h2 h4 hs ha1 x0 x3 hc e2 hn4 hB
  rcases hvs with ⟨e1, c4⟩ | ⟨e1, c4⟩
  all_goals
    simp only [e1, if_true, Bool.false_eq_true, if_false]
    clear e1
    go_enter Tryd.func11, Tryd.ntmps11
    go_wp2_with fail
    refine HRD.out.mono ?_
    rintro e w1 ⟨g, ob, rfl, i1, i2, i3, i4, i5, i6⟩
    have hI1 := Aside0.mk (⟨i1, i2, Nat.ne_of_lt i5, Nat.zero_le _, by have := hRd.out; have := HM.out; show l.length ≤ _; omega⟩ : Octet.Is w1 g ob ⟨l, 0, false⟩)
    have hB1 := Aside0.mk i6
    have hg := Aside0.mk i3
    clear i1 i2 i3 i4 i5 i6
    go_wp2_with fail
    refine (num_at g ob l 0 1 156 w1 hI1.out (by omega) (by omega) (by have := HM.out; omega) HB.out H.out.1).mono ?_
    rintro e w2 ⟨rfl, j1, j2, j3⟩
    have hI2 := Aside0.mk j1
    have hB2 := Aside0.mk (hB1.out.trans (j3 _ hg.out))
    clear j1 j2 j3 hI1 hB1
    go_wp2_with fail
    refine (num_at g ob l 1 1 a1 w2 hI2.out (by omega) (by omega) (by have := HM.out; omega) HB.out H.out.2.1).mono ?_
    rintro e w3 ⟨rfl, j1, j2, j3⟩
    have hI3 := Aside0.mk j1
    have hB3 := Aside0.mk (hB2.out.trans (j3 _ hg.out))
    clear j1 j2 j3 hI2 hB2
    go_wp2_with fail
    refine (num_at g ob l 2 2 a2 w3 hI3.out (by omega) (by omega) (by have := HM.out; omega) HB.out H.out.2.2.1).mono ?_
    rintro e w4 ⟨rfl, j1, j2, j3⟩
    have hI4 := Aside0.mk j1
    have hB4 := Aside0.mk (hB3.out.trans (j3 _ hg.out))
    clear j1 j2 j3 hI3 hB3
    go_wp2_with fail
    go_ways
    refine (take_at g ob l 4 a2 w4 hI4.out (by have := HM.out; omega) (by have := HM.out; omega)).mono ?_
    rintro e w5 ⟨v, rfl, k1, k2, k3, k4⟩
    have hn4 : 4 + a2.toNat = n4 := by have := HM.out; omega
    rw [hn4] at k2
    have hI5 := Aside0.mk k2
    have hB5 := Aside0.mk (hB4.out.trans (k4 _ hg.out hB4.out.size))
    have hO5 := Aside0.mk (show Kd.R (Kd.int .u8) 5 w5 w.heap.size (fun _ => True) v B from Kd.R_lower (by rw [← H.out.2.2.2.2.2]; exact k1) hB4.out.size)
    clear k1 k2 k3 k4 hI4 hB4 hn4
    go_wp2_with fail
    go_region_with (first
     | (go_at_call 14; refine (num_at g ob l n4 4 v4 _ ?i (by omega) (by omega) ?b HB.out H.out.2.2.2.1).mono ?_; (case i => first | exact hI5.out.drewN 1 | exact (hI5.out.alloc _).drewN 1); (case b => have := HM.out; omega); rintro e w6 ⟨rfl, j1, j2, j3⟩; have HA := after_num A n4 c 22 hI5.out hO5.out hB5.out hg.out (by first | exact .inl (by with_reducible rfl) | exact .inr (by with_reducible rfl)) j2 j3; have hO6 := Aside0.mk HA.1; have hB6 := Aside0.mk HA.2.1; have hblk := Aside0.mk HA.2.2; clear HA j1 j2 j3)
     | (go_at_call 12; first | ((with_reducible refine (Crc.of_at w6.heap.size A c n4 (l.take n4) s (w6.alloc (.cells #[.slice A n4 c] 22)) (T := 22) (fr := (0, 0)) ?h0 htl.out H.out.2.2.2.2.1 ?h1 ?h2 hn4c ?h3).mono ?_); (case h3 => exact htb.out); (case h0 => exact heap_alloc_new w6 _); (case h1 => exact HL.out.below (below_alloc hB6.out _) HL.out.lt); (case h2 => exact Kd.C_below HC.out (below_alloc hB6.out _)); rintro e w7 ⟨rfl, rfl⟩) | ((with_reducible refine (Crc.of_at w5.heap.size A c n4 (l.take n4) s w6 (T := 22) (fr := (0, 0)) ?h0 htl.out H.out.2.2.2.2.1 ?h1 ?h2 hn4c ?h3).mono ?_); (case h3 => exact htb.out); (case h0 => exact hblk.out (by first | trivial | rfl)); (case h1 => exact HL.out.below hB6.out HL.out.lt); (case h2 => exact Kd.C_below HC.out hB6.out); rintro e w7 ⟨rfl, rfl⟩)))
    all_goals
      have hF1 := Aside0.mk (And.intro hO6.out hB6.out)
      clear hO6 hB6 hblk hI5 hB5 hO5 HRD
      go_wp2
      go_ret3
      first
        | exact ⟨⟨_, rfl, hF1.out.1⟩, hF1.out.2⟩
        | exact ⟨⟨_, rfl, Kd.R_alloc hF1.out.1 _⟩, below_alloc hF1.out.2 _⟩
        | exact ⟨⟨_, rfl, Kd.R_nil _ _ _ _ _⟩, hF1.out.2⟩
        | exact ⟨⟨_, rfl, Kd.R_nil _ _ _ _ _⟩, below_alloc hF1.out.2 _⟩
end Go.Proofs.YtdamjkfggmmmeabDoor.Frame
