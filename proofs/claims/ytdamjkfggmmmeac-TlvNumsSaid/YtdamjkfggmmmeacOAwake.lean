/- Chapter 1's examples hold (closed), and bytes compared. -/
import Derived.Test.YtdamjkfggmmmeacWriter
import Derived.Deep.RegionWith
namespace Go.Proofs.Ytdamjkfggmmmeac.OAwake
open Go.RowKit Go.Proofs.YtdamjkfggmmmeacW.PrintWords Go.Proofs.YtdamjkfggmmmeacW.PrintLast Go.Proofs.YtdamjkfggmmmeacW.PrintMore
open Octet (Rd stepF numN num)
set_option linter.unusedVariables false
set_option linter.unusedSimpArgs false
def byteAll (l : List Int) : Prop := ∀ x ∈ l, 0 ≤ x ∧ x ≤ 255
/-- A number that is there to be read. -/
theorem num_at (g ob : Nat) (l : List Int) (i : Nat) (k : Int) (v : Int) (w : World) (h : Octet.Is w g ob ⟨l, i, false⟩) (h1 : 1 ≤ k) (h7 : k ≤ 7) (hi : (i : Int) + k ≤ l.length) (hb : byteAll l) (hv : num ((l.drop i).take k.toNat) = v) :
    Calls Try.prog 39 #[.pointer (some ⟨g, 0, none⟩), .int .i64 k] w fun e w' => e = .returned (.int .i64 v) ∧ Octet.Is w' g ob ⟨l, i + k.toNat, false⟩ ∧ KeepBut w w' g none ∧ (∀ B, B ≤ g → Below B w w') := by
  have hn : numN k = k := by unfold numN; rw [if_neg (by omega)]
  have hs : stepF ⟨l, i, false⟩ (numN k) = (some ((l.drop i).take k.toNat), ⟨l, i + k.toNat, false⟩) := by
    rw [hn]; unfold stepF
    rw [if_neg (by simp), if_neg (by simp; omega)]
  have := Octet.num_all g ob ⟨l, i, false⟩ k w h _ _ hs (fun p hp c hc => by
    obtain rfl := Option.some.inj hp
    exact hb c (List.mem_of_mem_drop (List.mem_of_mem_take hc)))
  rw [Option.getD_some, hv] at this
  exact this
theorem take_at (g ob : Nat) (l : List Int) (i : Nat) (k : Int) (w : World) (h : Octet.Is w g ob ⟨l, i, false⟩) (h0 : 0 ≤ k) (hi : (i : Int) + k ≤ l.length) :
    Calls Try.prog 42 #[.pointer (some ⟨g, 0, none⟩), .int .i64 k] w fun e w' => ∃ v : Value, e = .returned v ∧ Kd.R (Kd.int .u8) 5 w' w.heap.size (fun _ => True) v ((l.drop i).take k.toNat) ∧ Octet.Is w' g ob ⟨l, i + k.toNat, false⟩ ∧ KeepBut w w' g none ∧ (∀ B, B ≤ g → B ≤ w.heap.size → Below B w w') := by
  have hs : stepF ⟨l, i, false⟩ k = (some ((l.drop i).take k.toNat), ⟨l, i + k.toNat, false⟩) := by
    unfold stepF
    rw [if_neg (by simp), if_neg (by simp; omega)]
  have := Octet.take_all g ob ⟨l, i, false⟩ k w h _ _ hs
  rwa [Option.getD_some] at this
/-- A row that was just written out is read. -/
theorem C_new (w : World) (l : List Int) (v : Obj) (hv : v = .cells (Octet.bytes l).toArray 5 (0, 0)) (hl : l.length ≤ 100) : Kd.C (Kd.int .u8) (w.alloc v) (some ⟨w.heap.size, 0, none⟩) l.length l := by
  subst hv
  exact (Kd.R_reads' (Octet.own_whole (base := 0) (heap_alloc_new w _) (Nat.zero_le _) (by omega))).2.2
/-- A writer that is younger than all of w0; of w0 nothing is turned. -/
def Wn (w0 W : World) (g : Nat) (s : Writer.Wr) : Prop := (∃ u, Writer.Is W w0.heap.size g u s) ∧ Below w0.heap.size w0 W
theorem Wn.alloc {w0 W : World} {g : Nat} {s : Writer.Wr} (h : Wn w0 W g s) (o : Obj) : Wn w0 (W.alloc o) g s := by
  obtain ⟨⟨u, h1, h2, h3⟩, hb⟩ := h
  exact ⟨⟨u, blk_alloc h1 _, Kd.R_alloc h2 _, h3⟩, below_alloc hb _⟩
theorem wn_new (w : World) : Calls Try.prog 35 #[] w fun e w' => ∃ g, e = .returned (.pointer (some ⟨g, 0, none⟩)) ∧ Wn w w' g ⟨[], false⟩ := by
  refine (Writer.write_new w w.heap.size (Nat.le_refl _)).mono ?_
  rintro e w' ⟨g, rfl, h1, h2, h3⟩
  exact ⟨g, rfl, ⟨_, h1⟩, h3⟩
theorem wn_num (w0 : World) (g : Nat) (s : Writer.Wr) (n v : Int) (w : World) (h : Wn w0 w g s) (hl : s.b.length ≤ 1000000) :
    Calls Try.prog 36 #[.pointer (some ⟨g, 0, none⟩), .int .i64 n, .int .i64 v] w fun e w' => e = .returned (.pointer (some ⟨g, 0, none⟩)) ∧ Wn w0 w' g (Writer.numW s n v) := by
  obtain ⟨⟨u, h⟩, hb⟩ := h
  refine (Writer.num_all g _ u s n v w h hl).mono ?_
  rintro e w' ⟨rfl, u', hL⟩
  exact ⟨rfl, ⟨u', hL.is⟩, hb.trans hL.below⟩
theorem wn_bytes (w0 : World) (g : Nat) (s : Writer.Wr) (w : World) (h : Wn w0 w g s) (hl : s.b.length ≤ 1000000) :
    Calls Try.prog 37 #[.pointer (some ⟨g, 0, none⟩)] w fun e w' => ∃ A c, e = .returned (.tuple #[.slice A (if s.bad = true then [] else s.b).length c, .bool (!s.bad)]) ∧ Kd.R (Kd.int .u8) 5 w' w0.heap.size (fun _ => True) (.slice A (if s.bad = true then [] else s.b).length c) (if s.bad = true then [] else s.b) ∧ Below w0.heap.size w0 w' := by
  obtain ⟨⟨u, h⟩, hb⟩ := h
  refine (Writer.bytes_all g _ u s w h hl).mono ?_
  rintro e w' ⟨x, rfl, hR, hB⟩
  obtain ⟨A, c, rfl⟩ := Kd.R_slice hR
  exact ⟨A, c, rfl, Kd.R_lower hR hb.size, hb.trans (Octet.below_le hB hb.size)⟩
theorem rd_below {w W : World} {g ob : Nat} {s : Rd} (h : Octet.Is w g ob s) (hb : Below w.heap.size w W) : Octet.Is W g ob s :=
  ⟨(hb.block _ (blk_lt h.hg)).trans h.hg, (hb.block _ (blk_lt h.ho)).trans h.ho, h.ne, h.le, h.few⟩
end Go.Proofs.Ytdamjkfggmmmeac.OAwake
