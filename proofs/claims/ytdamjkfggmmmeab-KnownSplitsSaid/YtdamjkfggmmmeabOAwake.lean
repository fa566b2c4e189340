/- Chapter 1's examples hold (closed), and bytes compared. -/
import Derived.Test.YtdamjkfggmmmeabWriter
import Derived.Deep.RegionWith
namespace Go.Proofs.Ytdamjkfggmmmeab.OAwake
open Go.RowKit Go.Proofs.YtdamjkfggmmmeabW.PrintWords Go.Proofs.YtdamjkfggmmmeabW.PrintLast Go.Proofs.YtdamjkfggmmmeabW.PrintMore
open Octet (Rd stepF numN num)
set_option linter.unusedVariables false
set_option linter.unusedSimpArgs false
def byteAll (l : List Int) : Prop := ∀ x ∈ l, 0 ≤ x ∧ x ≤ 255
/-- A number that is there to be read. -/
theorem num_at (g ob : Nat) (l : List Int) (i : Nat) (k : Int) (v : Int) (w : World) (h : Octet.Is w g ob ⟨l, i, false⟩) (h1 : 1 ≤ k) (h7 : k ≤ 7) (hi : (i : Int) + k ≤ l.length) (hb : byteAll l) (hv : num ((l.drop i).take k.toNat) = v) :
    Calls Try.prog 19 #[.pointer (some ⟨g, 0, none⟩), .int .i64 k] w fun e w' => e = .returned (.int .i64 v) ∧ Octet.Is w' g ob ⟨l, i + k.toNat, false⟩ ∧ KeepBut w w' g none ∧ (∀ B, B ≤ g → Below B w w') := by
  have hn : numN k = k := by unfold numN; rw [if_neg (by omega)]
  have hs : stepF ⟨l, i, false⟩ (numN k) = (some ((l.drop i).take k.toNat), ⟨l, i + k.toNat, false⟩) := by
    rw [hn]; unfold stepF
    rw [if_neg (by simp), if_neg (by simp; omega)]
  have := Octet.num_all g ob ⟨l, i, false⟩ k w h _ _ hs (fun p hp c hc => by
    obtain rfl := Option.some.inj hp
    exact hb c (List.mem_of_mem_drop (List.mem_of_mem_take hc)))
  rw [Option.getD_some, hv] at this
  exact this
theorem take_at (g ob : Nat) (l : List Int) (i : Nat) (k : Int) (w : World) (h : Octet.Is w g ob ⟨l, i, false⟩) (h0 : 0 ≤ k) (hi : (i : Int) + k ≤ l.length) :
    Calls Try.prog 18 #[.pointer (some ⟨g, 0, none⟩), .int .i64 k] w fun e w' => ∃ v : Value, e = .returned v ∧ Kd.R (Kd.int .u8) 5 w' w.heap.size (fun _ => True) v ((l.drop i).take k.toNat) ∧ Octet.Is w' g ob ⟨l, i + k.toNat, false⟩ ∧ KeepBut w w' g none ∧ (∀ B, B ≤ g → B ≤ w.heap.size → Below B w w') := by
  have hs : stepF ⟨l, i, false⟩ k = (some ((l.drop i).take k.toNat), ⟨l, i + k.toNat, false⟩) := by
    unfold stepF
    rw [if_neg (by simp), if_neg (by simp; omega)]
  have := Octet.take_all g ob ⟨l, i, false⟩ k w h _ _ hs
  rwa [Option.getD_some] at this
theorem same_is (A B : Option Addr) (l m : List Int) (c d : Nat) (w : World) (hl : Kd.C (Kd.int .u8) w A l.length l) (hm : Kd.C (Kd.int .u8) w B m.length m) :
    Calls Try.prog 17 #[.slice A l.length c, .slice B m.length d] w fun e w' => e = .returned (.bool ((strOfNums l).toList == (strOfNums m).toList)) ∧ Drawn0 w w' := by
  have hcv3 := Kd.C_string (P := Try.prog) (A := A) (c := c) Try.underlying22 Try.underlying5 Try.underlying9 hl
  have hcv4 := Kd.C_string (P := Try.prog) (A := B) (c := d) Try.underlying22 Try.underlying5 Try.underlying9 hm
  go_enter Try.func17, Try.ntmps17
  go_wp2
  go_ret
  exact ⟨by first | rfl | (simp; done) | (simp [*]; done), by repeat (first | exact Drawn0.refl _ | apply Drawn0.step)⟩
/-- A row that was just written out is read. -/
theorem C_new (w : World) (l : List Int) (v : Obj) (hv : v = .cells (Octet.bytes l).toArray 5 (0, 0)) (hl : l.length ≤ 100) : Kd.C (Kd.int .u8) (w.alloc v) (some ⟨w.heap.size, 0, none⟩) l.length l := by
  subst hv
  exact (Kd.R_reads' (Octet.own_whole (base := 0) (heap_alloc_new w _) (Nat.zero_le _) (by omega))).2.2
/-- A writer that is younger than all of w0; of w0 nothing is turned. -/
def Wn (w0 W : World) (g : Nat) (s : Writer.Wr) : Prop := (∃ u, Writer.Is W w0.heap.size g u s) ∧ Below w0.heap.size w0 W
theorem Wn.alloc {w0 W : World} {g : Nat} {s : Writer.Wr} (h : Wn w0 W g s) (o : Obj) : Wn w0 (W.alloc o) g s := by
  obtain ⟨⟨u, h1, h2, h3⟩, hb⟩ := h
  exact ⟨⟨u, blk_alloc h1 _, Kd.R_alloc h2 _, h3⟩, below_alloc hb _⟩
theorem wn_new (w : World) : Calls Try.prog 12 #[] w fun e w' => ∃ g, e = .returned (.pointer (some ⟨g, 0, none⟩)) ∧ Wn w w' g ⟨[], false⟩ := by
  refine (Writer.write_new w w.heap.size (Nat.le_refl _)).mono ?_
  rintro e w' ⟨g, rfl, h1, h2, h3⟩
  exact ⟨g, rfl, ⟨_, h1⟩, h3⟩
theorem wn_num (w0 : World) (g : Nat) (s : Writer.Wr) (n v : Int) (w : World) (h : Wn w0 w g s) (hl : s.b.length ≤ 1000000) :
    Calls Try.prog 14 #[.pointer (some ⟨g, 0, none⟩), .int .i64 n, .int .i64 v] w fun e w' => e = .returned (.pointer (some ⟨g, 0, none⟩)) ∧ Wn w0 w' g (Writer.numW s n v) := by
  obtain ⟨⟨u, h⟩, hb⟩ := h
  refine (Writer.num_all g _ u s n v w h hl).mono ?_
  rintro e w' ⟨rfl, u', hL⟩
  exact ⟨rfl, ⟨u', hL.is⟩, hb.trans hL.below⟩
theorem wn_raw (w0 : World) (g : Nat) (s : Writer.Wr) (A : Option Addr) (l : List Int) (c : Nat) (w : World) (h : Wn w0 w g s) (hr : Kd.C (Kd.int .u8) w A l.length l) (hl : s.b.length + l.length ≤ 2000000) :
    Calls Try.prog 13 #[.pointer (some ⟨g, 0, none⟩), .slice A l.length c] w fun e w' => e = .returned (.pointer (some ⟨g, 0, none⟩)) ∧ Wn w0 w' g (Writer.rawW s l) := by
  obtain ⟨⟨u, h⟩, hb⟩ := h
  refine (Writer.raw_all g _ u s A l c w h hr hl).mono ?_
  rintro e w' ⟨rfl, u', hL⟩
  exact ⟨rfl, ⟨u', hL.is⟩, hb.trans hL.below⟩
theorem wn_bytes (w0 : World) (g : Nat) (s : Writer.Wr) (w : World) (h : Wn w0 w g s) (hl : s.b.length ≤ 1000000) :
    Calls Try.prog 15 #[.pointer (some ⟨g, 0, none⟩)] w fun e w' => ∃ A c, e = .returned (.tuple #[.slice A (if s.bad = true then [] else s.b).length c, .bool (!s.bad)]) ∧ Kd.R (Kd.int .u8) 5 w' w0.heap.size (fun _ => True) (.slice A (if s.bad = true then [] else s.b).length c) (if s.bad = true then [] else s.b) ∧ Below w0.heap.size w0 w' := by
  obtain ⟨⟨u, h⟩, hb⟩ := h
  refine (Writer.bytes_all g _ u s w h hl).mono ?_
  rintro e w' ⟨x, rfl, hR, hB⟩
  obtain ⟨A, c, rfl⟩ := Kd.R_slice hR
  exact ⟨A, c, rfl, Kd.R_lower hR hb.size, hb.trans (Octet.below_le hB hb.size)⟩
theorem rd_below {w W : World} {g ob : Nat} {s : Rd} (h : Octet.Is w g ob s) (hb : Below w.heap.size w W) : Octet.Is W g ob s :=
  ⟨(hb.block _ (blk_lt h.hg)).trans h.hg, (hb.block _ (blk_lt h.ho)).trans h.ho, h.ne, h.le, h.few⟩
set_option maxRecDepth 100000 in
set_option maxHeartbeats 4000000 in
theorem awake_is (w : World) : Calls Try.prog 11 #[] w fun e w' => e = .returned (.bool true) ∧ Below w.heap.size w w' := by
  have hC := C_new w [1, 2, 3] _ rfl (by decide)
  have HRD := Lib.hid (Octet.read_new (some ⟨w.heap.size, 0, none⟩) [1, 2, 3] 3 _ hC (by decide))
  have HB0 := Aside0.mk (below_alloc (Below.refl w.heap.size w) (.cells (Octet.bytes [1, 2, 3]).toArray 5 (0, 0)))
  go_enter Try.func11, Try.ntmps11
  go_wp2_with fail
  refine HRD.out.mono ?_
  rintro e w1 ⟨g, ob, rfl, i1, i2, i3, i4, i5, i6⟩
  have hI1 := Aside0.mk (⟨i1, i2, Nat.ne_of_lt i5, Nat.zero_le _, by decide⟩ : Octet.Is w1 g ob ⟨[1, 2, 3], 0, false⟩)
  have hB1 := Aside0.mk (HB0.out.trans (Octet.below_le i6 (by simp)))
  have hg := Aside0.mk (show w.heap.size ≤ g by have := i3; simp at this; omega)
  clear i1 i2 i3 i4 i5 i6 hC HRD HB0
  go_wp2_with fail
  refine (num_at g ob [1, 2, 3] 0 2 258 w1 hI1.out (by decide) (by decide) (by decide) (by intro x hx; simp at hx; omega) rfl).mono ?_
  rintro e w2 ⟨rfl, j1, j2, j3⟩
  have hI2 := Aside0.mk j1
  have hB2 := Aside0.mk (hB1.out.trans (j3 _ hg.out))
  clear j1 j2 j3 hI1 hB1
  go_wp2_with fail
  refine (Octet.left_is g ob _ w2 hI2.out).mono ?_
  rintro e w3 ⟨rfl, m, rfl⟩
  have hI3 := Aside0.mk (hI2.out.drewN m)
  have hB3 := Aside0.mk (pw_below_drewN hB2.out m)
  generalize w2.drewN m = w3 at hI3 hB3 ⊢
  clear hI2 hB2
  go_wp2_with fail
  refine (take_at g ob [1, 2, 3] 2 1 w3 hI3.out (by decide) (by decide)).mono ?_
  rintro e w4 ⟨v, rfl, k1, k2, k3, k4⟩
  have hI4 := Aside0.mk k2
  have hB4 := Aside0.mk (hB3.out.trans (k4 _ hg.out hB3.out.size))
  have hO4 := Aside0.mk (show Kd.R (Kd.int .u8) 5 w4 w.heap.size (fun _ => True) v [3] from Kd.R_lower k1 hB3.out.size)
  clear k1 k2 k3 k4 hI3 hB3
  obtain ⟨A4, c4, rfl⟩ := Kd.R_slice hO4.out
  go_wp2_with fail
  refine (wn_new w4).mono ?_
  rintro e w5 ⟨gw, rfl, hW⟩
  have HW5 := Aside0.mk hW
  clear hW
  go_wp2_with fail
  refine (wn_num w4 gw _ 2 258 w5 HW5.out (by decide)).mono ?_
  rintro e w6 ⟨rfl, hW⟩
  have HW6 := Aside0.mk hW
  clear hW HW5
  go_wp2_with fail
  have hC6 := C_new w6 [3] _ rfl (by decide)
  refine (wn_raw w4 gw _ (some ⟨w6.heap.size, 0, none⟩) [3] 1 _ (HW6.out.alloc _) hC6 (by decide)).mono ?_
  rintro e w7 ⟨rfl, hW⟩
  have hs : Writer.rawW (Writer.numW ⟨[], false⟩ 2 258) [3] = ⟨[1, 2, 3], false⟩ := by rfl
  rw [hs] at hW
  have HW7 := Aside0.mk hW
  clear hs
  clear hW HW6 hC6
  go_wp2_with fail
  refine (wn_bytes w4 gw ⟨[1, 2, 3], false⟩ w7 HW7.out (by decide)).mono ?_
  rintro e w8 ⟨Ab, cb, rfl, hR, hB⟩
  have hc8 := Kd.C_get (Kd.R_reads' (Kd.R_below hO4.out hB)).2.2 (0 : Int) 0 (by decide) (by decide)
  obtain ⟨ad, cc, rfl, hcl, hK, hcell⟩ := hc8
  obtain rfl : cc = [Value.int .u8 3] := hK
  have hx := hcell 0 _ rfl
  clear hcell hcl
  simp at hx
  have hx : w8.cell? ad = some (.int .u8 3) := hx
  have HR8 := Aside0.mk (show Kd.R (Kd.int .u8) 5 w8 w.heap.size (fun _ => True) (.slice Ab [(1:Int), 2, 3].length cb) [1, 2, 3] from Kd.R_lower hR hB4.out.size)
  have HI8 := Aside0.mk (rd_below hI4.out hB)
  have HO8 := Aside0.mk (Kd.R_below hO4.out hB)
  have HB8 := Aside0.mk (hB4.out.trans (Octet.below_le hB hB4.out.size))
  clear hR hB HW7 hI4 hB4 hO4
  go_wp2_with fail
  refine (Octet.done_is g ob _ w8 HI8.out).mono ?_
  rintro e w9 ⟨rfl, m9, rfl⟩
  have HR9 := Aside0.mk (Kd.R_drewN HR8.out m9)
  have HB9 := Aside0.mk (pw_below_drewN HB8.out m9)
  generalize w8.drewN m9 = w9 at HR9 HB9 ⊢
  clear HR8 HI8 HO8 HB8 hx
  go_wp2_with fail
  have hC9 := C_new w9 [1, 2, 3] _ rfl (by decide)
  refine (same_is Ab (some ⟨w9.heap.size, 0, none⟩) [1, 2, 3] [1, 2, 3] cb 3 _ (Kd.C_alloc (Kd.R_reads' HR9.out).2.2 _) hC9).mono ?_
  rintro e w10 ⟨rfl, hD⟩
  have HB10 := Aside0.mk ((below_alloc HB9.out (.cells (Octet.bytes [1, 2, 3]).toArray 5 (0, 0))).trans (Octet.below_le hD.below (below_alloc HB9.out (.cells (Octet.bytes [1, 2, 3]).toArray 5 (0, 0))).size))
  clear hD HB9 HR9 hC9
  rw [show ((strOfNums [1, 2, 3]).toList == (strOfNums [1, 2, 3]).toList) = true by simp]
  go_wp2_with fail
  go_ret
  exact ⟨rfl, HB10.out⟩
end Go.Proofs.Ytdamjkfggmmmeab.OAwake
