/- What OctetWrites (chapter 1) needs beside the writer: the wanted bytes, a row of their own beside it. -/
import Derived.Test.YtdamjkfggmmmeaaOBack
namespace Go.Proofs.Ytdamjkfggmmmeaa.OWrites
open Go.RowKit Go.Proofs.YtdamjkfggmmmeaaW.PrintWords Go.Proofs.YtdamjkfggmmmeaaW.PrintLast Go.Proofs.YtdamjkfggmmmeaaW.PrintMore
open Octet (Rd stepF numN num)
open OAwake (byteAll Wn wn_new wn_num wn_raw wn_bytes num_at take_at same_is C_new awake_is)
open OBack (pw pw_succ pw_pos pw_small power_is)
set_option linter.unusedVariables false
set_option linter.unusedSimpArgs false
/-- The writer in block g, and a row of the caller's, apart from it. -/
def Inv (w W : World) (g : Nat) (x : Value) (s : Writer.Wr) (m : List Int) : Prop :=
  ∃ u, Writer.Is W w.heap.size g u s ∧ Kd.R (Kd.int .u8) 5 W w.heap.size (fun _ => True) x m ∧ Below w.heap.size w W ∧ ∀ k, x.ownBlock = some k → k ≠ g ∧ some k ≠ u.ownBlock
theorem Inv.below_ {w W : World} {g : Nat} {x : Value} {s : Writer.Wr} {m : List Int} (h : Inv w W g x s m) : Below w.heap.size w W := by
  obtain ⟨u, _, _, h, _⟩ := h; exact h
theorem Inv.row {w W : World} {g : Nat} {x : Value} {s : Writer.Wr} {m : List Int} (h : Inv w W g x s m) : Kd.R (Kd.int .u8) 5 W w.heap.size (fun _ => True) x m := by
  obtain ⟨u, _, h, _, _⟩ := h; exact h
theorem Inv.new {w W : World} {g : Nat} {s : Writer.Wr} (h : Wn w W g s) : Inv w W g (.slice none 0 0) s [] := by
  obtain ⟨⟨u, h1⟩, h2⟩ := h
  exact ⟨u, h1, Kd.R_nil _ _ _ _ _, h2, fun k hk => by cases hk⟩
theorem Inv.step {w W W1 : World} {g : Nat} {x : Value} {s : Writer.Wr} {m : List Int} (h : Inv w W g x s m) (hb : Below W.heap.size W W1) : Inv w W1 g x s m := by
  obtain ⟨u, h1, h2, h3, h4⟩ := h
  exact ⟨u, ⟨(hb.block _ (blk_lt h1.hg)).trans h1.hg, Kd.R_below h1.hR hb, h1.le⟩, Kd.R_below h2 hb, h3.trans (Octet.below_le hb h3.size), h4⟩
theorem Inv.left {w W W1 : World} {g : Nat} {x : Value} {s s1 : Writer.Wr} {m : List Int} {u u1 : Value} (h1 : Writer.Is W w.heap.size g u s) (h2 : Kd.R (Kd.int .u8) 5 W w.heap.size (fun _ => True) x m) (h3 : Below w.heap.size w W) (h4 : ∀ k, x.ownBlock = some k → k ≠ g ∧ some k ≠ u.ownBlock) (hL : Writer.Left W W1 w.heap.size g u u1 s1) : Inv w W1 g x s1 m := by
  have hk := hL.keep
  refine ⟨u1, hL.is, ?_, h3.trans hL.below, fun k hx => ⟨(h4 k hx).1, ?_⟩⟩
  · exact Kd.R_mono (Kd.R_step (Kd.R_tight rfl h2) (fun k ho hlt => hk.2 k hlt (h4 k ho.symm).1 (h4 k ho.symm).2)) (fun _ _ => trivial)
  · rcases hL.row with e | ⟨b, e, hb⟩
    · rw [e]; exact (h4 k hx).2
    · rw [e]; intro e2; have := Option.some.inj e2; have := Kd.R_lt h2 k hx; omega
/-- Behind an append to the caller's row. -/
theorem Inv.put {w W w1 : World} {g : Nat} {x x1 : Value} {s : Writer.Wr} {m m1 : List Int} (h : Inv w W g x s m)
    (ho : Kd.R (Kd.int .u8) 5 w1 w.heap.size (fun _ => True) x1 m1) (hB : Below w.heap.size w w1) (hg : W.grownBy w1 x.ownBlock) (hat : x1.ownBlock = x.ownBlock ∨ ∃ b, x1.ownBlock = some b ∧ W.heap.size ≤ b) : Inv w w1 g x1 s m1 := by
  obtain ⟨u, h1, h2, h3, h4⟩ := h
  refine ⟨u, ⟨blk_grown h1.hg hg (fun e => (h4 g e.symm).1 rfl), Kd.R_grown2 h1.hR rfl hg (fun k hk => (h4 k hk).2), h1.le⟩, ho, hB, fun k hx => ?_⟩
  rcases hat with e | ⟨b, e, hb⟩
  · exact h4 k (by rw [← e]; exact hx)
  · rw [hx] at e
    have := Option.some.inj e
    have := blk_lt h1.hg
    refine ⟨by omega, fun e2 => ?_⟩
    have := Kd.R_lt h1.hR k e2.symm
    omega
theorem inv_num (w : World) (g : Nat) (x : Value) (s : Writer.Wr) (m : List Int) (n v : Int) (W : World) (h : Inv w W g x s m) (hl : s.b.length ≤ 1000000) :
    Calls Try.prog 46 #[.pointer (some ⟨g, 0, none⟩), .int .i64 n, .int .i64 v] W fun e w' => e = .returned (.pointer (some ⟨g, 0, none⟩)) ∧ Inv w w' g x (Writer.numW s n v) m := by
  obtain ⟨u, h1, h2, h3, h4⟩ := h
  refine (Writer.num_all g _ u s n v W h1 hl).mono ?_
  rintro e w' ⟨rfl, u', hL⟩
  exact ⟨rfl, Inv.left h1 h2 h3 h4 hL⟩
theorem inv_raw (w : World) (g : Nat) (x : Value) (s : Writer.Wr) (m : List Int) (A : Option Addr) (l : List Int) (c : Nat) (W : World) (h : Inv w W g x s m) (hr : Kd.C (Kd.int .u8) W A l.length l) (hl : s.b.length + l.length ≤ 2000000) :
    Calls Try.prog 45 #[.pointer (some ⟨g, 0, none⟩), .slice A l.length c] W fun e w' => e = .returned (.pointer (some ⟨g, 0, none⟩)) ∧ Inv w w' g x (Writer.rawW s l) m := by
  obtain ⟨u, h1, h2, h3, h4⟩ := h
  refine (Writer.raw_all g _ u s A l c W h1 hr hl).mono ?_
  rintro e w' ⟨rfl, u', hL⟩
  exact ⟨rfl, Inv.left h1 h2 h3 h4 hL⟩
/-- The bytes told, the writer and the row as they were. -/
theorem inv_bytes (w : World) (g : Nat) (x : Value) (s : Writer.Wr) (m : List Int) (W : World) (h : Inv w W g x s m) (hl : s.b.length ≤ 1000000) :
    Calls Try.prog 49 #[.pointer (some ⟨g, 0, none⟩)] W fun e w' => ∃ A c, e = .returned (.tuple #[.slice A (if s.bad = true then [] else s.b).length c, .bool (!s.bad)]) ∧ Kd.C (Kd.int .u8) w' A (if s.bad = true then [] else s.b).length (if s.bad = true then [] else s.b) ∧ Inv w w' g x s m := by
  have hI := h
  obtain ⟨u, h1, h2, h3, h4⟩ := h
  refine (Writer.bytes_all g _ u s W h1 hl).mono ?_
  rintro e w' ⟨y, rfl, hR, hB⟩
  obtain ⟨A, c, rfl⟩ := Kd.R_slice hR
  exact ⟨A, c, rfl, (Kd.R_reads' hR).2.2, hI.step hB⟩
/-- The statement's own digits. -/
theorem digs_down (v : Int) (j : Nat) : Writer.digs v (j + 1) = v / 2 ^ (8 * j) % 256 :: Writer.digs v j := rfl
theorem pw_div (v : Int) (j : Nat) : v / pw j / 256 = v / pw (j + 1) := by
  rw [pw_succ, Int.ediv_ediv_of_nonneg (by have := pw_pos j; omega)]
theorem set_down (v : Int) (i j : Nat) : (Octet.bytes (List.replicate (i + 1) 0 ++ Writer.digs v j)).toArray.setIfInBounds i (.int .u8 (v / pw j % 256)) = (Octet.bytes (List.replicate i 0 ++ Writer.digs v (j + 1))).toArray := by
  rw [List.setIfInBounds_toArray]
  congr 1
  rw [digs_down, show (2 : Int) ^ (8 * j) = pw j from rfl]
  simp only [Octet.bytes, List.map_append, List.map_cons, List.map_replicate]
  rw [List.replicate_succ', List.append_assoc, List.set_append_right _ _ (by simp)]
  simp
set_option maxRecDepth 100000 in
set_option maxHeartbeats 4000000 in
theorem digits_is (n : Nat) (v : Int) (w : World) (h1 : 1 ≤ n) (h7 : n ≤ 7) (h0 : 0 ≤ v) (hv : v < pw n) :
    Calls Try.prog 48 #[.int .i64 (n : Int), .int .i64 v] w fun e w' => ∃ x : Value, e = .returned x ∧ Kd.R (Kd.int .u8) 5 w' w.heap.size (fun _ => True) x (Writer.digs v n) ∧ Below w.heap.size w w' := by
  have hmk := Octet.make5 n (by omega) w
  obtain ⟨W0, hW0⟩ : ∃ W0, W0 = w.alloc (.cells (List.replicate n (Value.int .u8 0)).toArray 5) := ⟨_, rfl⟩
  rw [← hW0] at hmk
  have hb0 : W0.heap[w.heap.size]? = some (.cells (Octet.bytes (List.replicate n 0 ++ Writer.digs v 0)).toArray 5 (0, 0)) := by rw [hW0]; simpa [Octet.bytes, Writer.digs] using heap_alloc_new w (.cells (List.replicate n (Value.int .u8 0)).toArray 5)
  have hbel0 : Below w.heap.size w W0 := by rw [hW0]; exact (Below.refl _ _).alloc (Nat.le_refl _) _
  have HI := Aside0.mk (And.intro hb0 hbel0)
  have HN := Aside0.mk (And.intro h1 (And.intro h7 h0))
  have HP := Aside0.mk (Int.lt_of_lt_of_le hv (pw_small n h7).2)
  clear hW0 hb0 hbel0 h1 h7 hv
  go_enter Try.func48, Try.ntmps48
  go_wp2
  go_loopg [1, 6] (n + 1) (fun kq v1 v6 w' => ∃ (i j : Nat) (V : Int), v1 = .int .i64 V ∧ v6 = .int .i64 ((i : Int) - 1) ∧ Aside0 (i + j = n) ∧ Aside0 (kq = i + 1) ∧ Aside0 (V = v / pw j) ∧ Aside0 (w'.heap[w.heap.size]? = some (.cells (Octet.bytes (List.replicate i 0 ++ Writer.digs v j)).toArray 5 (0, 0)) ∧ Below w.heap.size w w'))
  case atStart => exact ⟨n, 0, v, rfl, by congr 1; have := HN.out; unfold wrap64; omega, ⟨rfl⟩, ⟨rfl⟩, ⟨by simp [pw]⟩, HI⟩
  case round =>
    obtain ⟨i, j, V, rfl, rfl, hij, hk, hV, hH⟩ := hrel
    have hk := hk.out
    subst hk
    cases i with
    | zero =>
      have hj : j = n := by have := hij.out; omega
      subst hj
      obtain ⟨hg, hb⟩ := hH.out
      have hR := Octet.own_whole (base := w.heap.size) hg (Nat.le_refl _) (by have := HN.out; simp [Writer.digs_len]; omega)
      simp only [List.replicate_zero, List.nil_append] at hR
      rw [Writer.digs_len] at hR
      have H := Aside0.mk (And.intro hR hb)
      clear hg hb hR hH HI hmk
      go_wp2
      go_ret
      exact ⟨_, rfl, H.out.1, H.out.2⟩
    | succ i =>
      have hsub : ((i + 1 : Nat) : Int) - 1 = (i : Int) := by omega
      rw [hsub]
      obtain ⟨hg, hb⟩ := hH.out
      have hc := Octet.row_cell hg (i := i) (v := 0) (by simp [List.getElem?_append])
      have hz := blk_frozen hg i
      have hgl := blk_lt hg
      have hset := blk_set hg i (.int .u8 (v / pw j % 256))
      rw [set_down v i j] at hset
      have HS := Aside0.mk hset
      have HB := Aside0.mk (hb.setCell (p := ⟨w.heap.size, i, none⟩) (Nat.le_refl _) (.int .u8 (v / pw j % 256)))
      have V0 : 0 ≤ V := by rw [hV.out]; exact Int.ediv_nonneg h0 (by have := pw_pos j; omega)
      have hin : i < n := by have := hij.out; omega
      have hu : IntKind.u8.wrap (V % 256) = v / pw j % 256 := by rw [IntKind.wrap_u8, hV.out]; omega
      have HVv := Aside0.mk (show V ≤ v by rw [hV.out]; exact Int.ediv_le_self _ h0)
      have hq := Aside0.mk (show V / 256 = v / pw (j + 1) by rw [hV.out, pw_div])
      have hin := Aside0.mk hij.out
      have hin2 : i < n := by have := hij.out; omega
      have HH := Aside0.mk (And.intro hg hb)
      clear hg hb hset hH HI hmk hV
      go_wp2
      go_roundg (i + 1)
      case measure => omega
      case rel =>
        refine ⟨i, j + 1, _, rfl, by first | rfl | (congr 1; have := hin.out; have := HN.out; unfold wrap64; omega), ⟨by have := hin.out; omega⟩, ⟨rfl⟩, ⟨?_⟩, ⟨?_, ?_⟩⟩
        · rw [← hq.out, Int.tdiv_eq_ediv_of_nonneg V0]
          have := HVv.out; have := HP.out
          unfold wrap64; omega
        · exact HS.out
        · exact HB.out
/-- The writer, the wanted bytes, and what is known of both. -/
def Stand (w W : World) (g : Nat) (x : Value) (bad : Bool) (N : Nat) : Prop := ∃ (s : Writer.Wr) (m : List Int), Inv w W g x s m ∧ s.bad = bad ∧ (bad = false → s.b = m) ∧ s.b.length ≤ N ∧ m.length ≤ N
theorem Stand.raw_bad {w W : World} {g : Nat} {x : Value} {s : Writer.Wr} {m l : List Int} {N : Nat} (h : Inv w W g x (Writer.rawW s l) m) (hb : s.bad = true) (h1 : s.b.length ≤ N) (h2 : m.length ≤ N) : Stand w W g x true (N + 100) := by
  unfold Writer.rawW at h; rw [if_pos hb] at h
  exact ⟨s, m, h, hb, (by intro h; cases h), by omega, by omega⟩
theorem Stand.raw_ok {w W : World} {g : Nat} {x : Value} {s : Writer.Wr} {m l : List Int} {N : Nat} (h : Inv w W g x (Writer.rawW s l) (m ++ l)) (hb : s.bad = false) (e : s.b = m) (h2 : m.length ≤ N) (hl : l.length ≤ 100) : Stand w W g x false (N + 100) := by
  unfold Writer.rawW at h; rw [if_neg (by simp [hb])] at h
  exact ⟨_, _, h, rfl, fun _ => by rw [e], by simp [e]; omega, by simp; omega⟩
theorem Stand.num_bad {w W : World} {g : Nat} {x : Value} {s : Writer.Wr} {m : List Int} {n v : Int} {N : Nat} (h : Inv w W g x (Writer.numW s n v) m) (hb : s.bad = true ∨ Writer.fitsB n v = false) (h1 : s.b.length ≤ N) (h2 : m.length ≤ N) : Stand w W g x true (N + 100) := by
  unfold Writer.numW at h
  by_cases c : s.bad = true
  · rw [if_pos c] at h
    exact ⟨s, m, h, c, (by intro h; cases h), by omega, by omega⟩
  · rw [if_neg c, if_neg (by simp [hb.resolve_left c])] at h
    exact ⟨_, m, h, rfl, (by intro h; cases h), by simp; omega, by omega⟩
theorem Stand.num_ok {w W : World} {g : Nat} {x : Value} {s : Writer.Wr} {m : List Int} {n : Nat} {v : Int} {N : Nat} (h : Inv w W g x (Writer.numW s n v) (m ++ Writer.digs v n)) (hb : s.bad = false) (hf : Writer.fitsB n v = true) (e : s.b = m) (h2 : m.length ≤ N) (hl : n ≤ 7) : Stand w W g x false (N + 100) := by
  unfold Writer.numW at h; rw [if_neg (by simp [hb]), if_pos hf, Int.toNat_natCast] at h
  have := Writer.digs_len v n
  exact ⟨_, _, h, rfl, fun _ => by rw [e], by simp [e]; omega, by simp; omega⟩
end Go.Proofs.Ytdamjkfggmmmeaa.OWrites
